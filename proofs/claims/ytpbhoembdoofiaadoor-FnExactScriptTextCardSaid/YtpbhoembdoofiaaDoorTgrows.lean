/- Opening slices of structs that came in. Conditions: none but those that each statement names. -/
import Derived.Deep.Slices
import Derived.Test.YtpbhoembdoofiaaDoorTgopen
import Derived.Test.YtpbhoembdoofiaaDoorTobase
namespace Go.Proofs.YtpbhoembdoofiaaDoor.T
open Go.ChangeShapes Go.WideShapes Go.ChangeAt Go.Joins Go.Deep Go.RowKit
set_option linter.unusedVariables false
set_option linter.unusedSimpArgs false
variable {H : Type} {enc : TypeId × Value → H} {P : Program} {w : World} {base : Nat} {spare : Nat → Bool} {held : Bool}
theorem ro_add (a : Addr) (i j : Nat) : (a.add i).add j = a.add (i + j) := by
  by_cases hi : i = 0 <;> by_cases hj : j = 0 <;> simp [Addr.add, hi, hj, Nat.add_assoc]
theorem addr_in {w : World} {a : Addr} {u : Value} (h : w.cell? (a.add 0) = some u) : ∃ b o, a = ⟨b, o, none⟩ ∧ b < w.heap.size := by
  obtain ⟨b, o, sp⟩ := a
  rw [show (⟨b, o, sp⟩ : Addr).add 0 = ⟨b, o, sp⟩ from rfl] at h
  unfold World.cell? at h
  cases hb : w.heap[b]? with
  | none => simp [hb] at h
  | some ob =>
    cases sp with
    | none => exact ⟨b, o, rfl, (Array.getElem?_eq_some_iff.1 hb).1⟩
    | some n => cases ob <;> simp [hb] at h
theorem add_none (b o n : Nat) : (⟨b, o, none⟩ : Addr).add n = ⟨b, o + n, none⟩ := by
  unfold Addr.add
  split
  · rename_i h; simp [h]
  · rfl
instance : Inhabited Stp := ⟨zS⟩
theorem open_rowS {t e : TypeId} {fuel : Nat} {v : Value} {x : DataW H × List MemPlace} (ht : P.underlying t = some (.slice e)) (hsz : P.cellsOf e = 4)
    (hel : ∀ (cs : List Value) (n : Nat) (y : DataW H × List MemPlace), cs.length = 4 → DataW.trod enc P w base spare held n e cs = some y → ∃ a : Stp, cs = encS a)
    (h : DataW.trod enc P w base spare held fuel t [v] = some x) : ∃ xs : List Stp, RowS w v xs := by
  rcases open_slice ht h with ⟨h0, _⟩ | ⟨a, len, cap, m, n, D, Pl, hcs, hb, hl, hm, hmm, rfl, hx⟩
  · obtain rfl := (List.cons.inj h0).1
    exact ⟨[], none, 0, rfl, Nat.le_refl _, Nat.zero_le _, fun h => absurd h (Nat.lt_irrefl _)⟩
  · obtain rfl := (List.cons.inj hcs).1
    have hlm : len ≤ m := by rw [hmm]; split <;> omega
    obtain ⟨V, hV⟩ := choose_lt (n := len) (p := fun i (p : Stp) => ∀ j u, (encS p)[j]? = some u → w.cell? (a.add (i * 4 + j)) = some u) (fun i hi => by
      obtain ⟨cs, h1, h2⟩ := hx i (by omega)
      obtain ⟨_, hlen, hc⟩ := World.cells?_some h1
      rw [hsz] at hlen hc
      obtain ⟨p, rfl⟩ := hel cs n _ hlen h2
      refine ⟨p, fun j u hu => ?_⟩
      have hj : j < 4 := by
        have := (List.getElem?_eq_some_iff.1 hu).1
        simpa [encS] using this
      rw [← ro_add, hc j hj, hu])
    have hxl : ((List.range len).map V).length = len := by simp
    refine ⟨(List.range len).map V, some a, cap, by rw [hxl], by rw [hxl]; exact hl, ?_, fun hp => ?_⟩
    · have : maxLen = 140737488355327 ∨ maxLen ≤ 9223372036854775807 := by first | exact Or.inr (by decide) | exact Or.inl rfl
      rw [hxl]
      rcases this with h | h <;> omega
    · rw [hxl] at hp
      obtain ⟨b, o, rfl, hlt⟩ := addr_in (hV 0 hp 0 _ rfl)
      refine ⟨b, o, rfl, hlt, fun k y hk j u hu => ?_⟩
      have hkl : k < len := by
        have := (List.getElem?_eq_some_iff.1 hk).1
        omega
      have : y = V k := by
        rw [List.getElem?_map, List.getElem?_range hkl] at hk
        exact (Option.some.inj hk).symm
      subst this
      have := hV k hkl j u hu
      rw [add_none] at this
      rw [Nat.add_assoc]
      exact this

end Go.Proofs.YtpbhoembdoofiaaDoor.T
