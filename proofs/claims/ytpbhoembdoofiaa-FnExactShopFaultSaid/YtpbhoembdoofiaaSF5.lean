import Derived.IntWalk
import Derived.Test.YtpbhoembdoofiaaSF4
namespace Go.Proofs.Ytpbhoembdoofiaa.B
open Go.RowKit Go.Proofs.YtpbhoembdoofiaaW.PrintWords Go.Proofs.YtpbhoembdoofiaaW.PrintLast Go.Proofs.YtpbhoembdoofiaaW.PrintMore Go.Proofs.YtpbhoembdoofiaaW.Zc
set_option linter.unusedVariables false
set_option linter.unusedSimpArgs false
theorem pw_lawShopFault (k : Nat) (hk : 1048600 ≤ k) (pl : List S107) (d : Int) (pt : List Int) (wa mo : Int) (lg : List S88) (a b c : Int) (h1 : pl.length ≤ 9223372036854775807) (h2 : pt.length ≤ 9223372036854775807) (h3 : lg.length ≤ 9223372036854775807) :
    laws_FnExactShopFault.f k pl d pt wa mo lg a b c = some true := by
  obtain ⟨k, rfl⟩ : ∃ m, k = m + 3 := ⟨k - 3, by omega⟩
  unfold laws_FnExactShopFault.f
  rw [pw_szShop pl d pt wa mo lg h1 h2 h3]
  by_cases g : pl.length + pt.length + lg.length ≤ 1048576
  · have gm : (pl.map toStp).length + pt.length + (lg.map toEnt).length ≤ 1048576 := by rw [List.length_map, List.length_map]; exact g
    have hL := sfL_len (pl.map toStp) d pt wa mo (lg.map toEnt) a b c
    have gL : (pl.map toStp).length + pt.length + (sfL (pl.map toStp) d pt wa mo (lg.map toEnt) a b c).length ≤ 1048577 := by omega
    rw [if_pos g]
    simp only [Option.bind_some]
    rw [if_neg (by omega), pw_toShop (k + 3) pl d pt wa mo lg g (by omega)]
    simp only [laws_toPipe.f, Option.bind_some]
    rw [pw_specSF (k + 3) (by omega) _ d pt wa mo _ a b c gm, pw_implSF _ d pt wa mo _ a b c gm]
    simp only [Option.bind_some]
    rw [pw_eqShop (k + 3) _ d pt wa mo _ gL (by omega)]
    simp only [Option.bind_some, if_true, bne_self_eq_false]
    rw [laws_FnExactShopFault.j0]
    rw [if_neg (by decide), pw_toShop (k + 2) pl d pt wa mo lg g (by omega)]
    simp only [Option.bind_some]
    rw [pw_eqShop (k + 2) _ d pt wa mo _ (by omega) (by omega)]
    simp only [Option.bind_some, if_true]
    rw [pw_markShop (k + 2) _ d pt wa mo _ (by omega) (by omega)]
    simp only [Option.bind_some]
    rw [if_neg (by omega), pw_eqShop (k + 2) _ d pt wa mo _ gL (by omega)]
    simp only [Option.bind_some, if_true, bne_self_eq_false]
    rw [laws_FnExactShopFault.j1]
    rw [if_neg (by decide), pw_markShop (k + 1) _ d pt wa mo _ gL (by omega)]
    simp only [Option.bind_some]
    rw [pw_heldShop (k + 1) _ _ _ d wa mo gL (by omega)]
    simp only [Option.bind_some]
    rw [if_neg (by omega), if_pos trivial, pw_toShop (k + 1) pl d pt wa mo lg g (by omega)]
    simp only [laws_toPipe.f, Option.bind_some]
    rw [pw_implSF _ d pt wa mo _ a b c gm]
    simp only [Option.bind_some]
    rw [pw_eqShop (k + 1) _ d pt wa mo _ gL (by omega)]
    simp only [Option.bind_some, if_true, bne_self_eq_false]
    rw [laws_FnExactShopFault.j2]
    rw [if_neg (by decide), pw_heldShop k _ _ _ d wa mo gL (by omega)]
    simp only [Option.bind_some]
    rw [if_neg (by omega), if_pos trivial]
  · rw [if_neg g]
    simp
end Go.Proofs.Ytpbhoembdoofiaa.B
