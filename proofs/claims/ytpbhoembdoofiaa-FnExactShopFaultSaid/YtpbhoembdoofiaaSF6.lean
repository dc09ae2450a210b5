import Derived.IntWalk
import Derived.Test.YtpbhoembdoofiaaSF5
import Derived.Test.YtpbhoembdoofiaaRows
namespace Go.Proofs.Ytpbhoembdoofiaa.B
open Go.RowKit Go.Proofs.YtpbhoembdoofiaaW.PrintWords Go.Proofs.YtpbhoembdoofiaaW.PrintLast Go.Proofs.YtpbhoembdoofiaaW.PrintMore Go.Proofs.YtpbhoembdoofiaaW.Zc
set_option linter.unusedVariables false
set_option linter.unusedSimpArgs false
section
open Go.ChangeShapes Go.WideShapes Go.ChangeAt Go.Joins Go.Deep
open Go.ChangeMaps (open_string shut_string)
theorem rs_own : ownKnob Try.prog.godebug = none := by kernel_rfl
theorem rs_laid : laidOutB Try.prog = true := by kernel_rfl
theorem rs_cInt : Try.prog.cellsOf 3 = 1 := by kernel_rfl
theorem rs_cStep : Try.prog.cellsOf 107 = 4 := by kernel_rfl
theorem rs_cPipe : Try.prog.cellsOf 30 = 2 := by kernel_rfl
theorem rs_cEntry : Try.prog.cellsOf 88 = 4 := by kernel_rfl
theorem rs_cWork : Try.prog.cellsOf 25 = 3 := by kernel_rfl
theorem rs_cShop : Try.prog.cellsOf 28 = 6 := by kernel_rfl
theorem rs_cSl : Try.prog.cellsOf 22 = 1 ∧ Try.prog.cellsOf 23 = 1 ∧ Try.prog.cellsOf 26 = 1 := ⟨by kernel_rfl, by kernel_rfl, by kernel_rfl⟩
instance : Inhabited S107 := ⟨z107⟩
instance : Inhabited S88 := ⟨z88⟩
variable {H : Type} {enc : TypeId × Value → H} {w : World} {base : Nat} {spare : Nat → Bool} {held : Bool}
theorem rs_step (cs : List Value) (n : Nat) (y : DataW H × List MemPlace) (hl : cs.length = k107.sz) (h : DataW.trod enc Try.prog w base spare held n 107 cs = some y) : ∃ a : S107, k107.K w a cs := by
  obtain ⟨a, b, c, d, rfl⟩ := ro_four Try.underlying107 ⟨rfl, rfl⟩ ⟨rfl, rfl⟩ ⟨rfl, rfl⟩ ⟨rfl, rfl⟩ Try.underlying3 rs_cInt hl h
  exact ⟨⟨a, b, c, d⟩, k107_mk w ⟨a, b, c, d⟩⟩
theorem rs_entry (cs : List Value) (n : Nat) (y : DataW H × List MemPlace) (hl : cs.length = k88.sz) (h : DataW.trod enc Try.prog w base spare held n 88 cs = some y) : ∃ a : S88, k88.K w a cs := by
  match cs, hl with
  | [v0, v1, v2, v3], _ =>
    obtain ⟨y0, y1, y2, m, _, _, g0, g1, g2⟩ := trod_struct3 Try.underlying88 h
    simp only [rs_cPipe, rs_cInt, List.drop_zero, List.take_succ_cons, List.take_zero, List.drop_succ_cons] at g0 g1 g2
    obtain ⟨a, b, e0⟩ := ro_two (cs := [v0, v1]) (t := 3) Try.underlying30 ⟨rfl, rfl⟩ ⟨rfl, rfl⟩ Try.underlying3 rs_cInt rfl g0
    obtain ⟨c, e1, _, _⟩ := DataW.trod_int Try.underlying3 g1
    obtain ⟨d, e2, _, _⟩ := DataW.trod_int Try.underlying3 g2
    simp only [List.cons.injEq, and_true] at e0 e1 e2
    obtain ⟨rfl, rfl⟩ := e0
    subst e1
    subst e2
    exact ⟨⟨⟨a, b⟩, c, d⟩, k88_mk w ⟨⟨a, b⟩, c, d⟩⟩
set_option maxRecDepth 10000 in
theorem rs_shop {r : Reach} {b0 : Nat} {v : Value} {d : DataW H} {p : List MemPlace} (hv : Value.okWide Try.prog w r b0 28 v) (h : DataW.Trod enc Try.prog w base spare held 28 v d p) :
    ∃ (A0 : Option Addr) (c0 : Nat) (l0 : List S107) (a1 : Int) (A2 : Option Addr) (c2 : Nat) (l2 : List Int) (a3 a4 : Int) (A5 : Option Addr) (c5 : Nat) (l5 : List S88),
      v = .agg #[.slice A0 l0.length c0, .int .i64 a1, .slice A2 l2.length c2, .int .i64 a3, .int .i64 a4, .slice A5 l5.length c5] ∧ k107.C w A0 l0.length l0 ∧ l0.length ≤ c0 ∧ (Kd.int .i64).C w A2 l2.length l2 ∧ l2.length ≤ c2 ∧ k88.C w A5 l5.length l5 ∧ l5.length ≤ c5 := by
  obtain ⟨cs, rfl, hcs⟩ := okWide_struct Try.underlying28 hv
  rw [rs_cShop] at hcs
  obtain ⟨cs⟩ := cs
  match cs, hcs with
  | [v0, v1, v2, v3, v4, v5], _ =>
    obtain ⟨fuel, hf⟩ := h
    obtain ⟨y0, y1, y2, y3, m, _, _, g0, g1, g2, g3⟩ := trod_struct4 Try.underlying28 hf
    simp only [Value.cells, rs_cWork, rs_cInt, rs_cSl.1, rs_cSl.2.1, rs_cSl.2.2, List.drop_zero, List.take_succ_cons, List.take_zero, List.drop_succ_cons] at g0 g1 g2 g3
    obtain ⟨z0, z1, z2, m', _, _, q0, q1, q2⟩ := trod_struct3 Try.underlying25 g0
    simp only [rs_cInt, rs_cSl.1, rs_cSl.2.1, List.drop_zero, List.take_succ_cons, List.take_zero, List.drop_succ_cons] at q0 q1 q2
    obtain ⟨a1, e1, _, _⟩ := DataW.trod_int Try.underlying3 q1
    obtain ⟨a3, e3, _, _⟩ := DataW.trod_int Try.underlying3 g1
    obtain ⟨a4, e4, _, _⟩ := DataW.trod_int Try.underlying3 g2
    obtain ⟨A0, c0, l0, rfl, i0, _, j0⟩ := ro_slice k107 Try.underlying22 rs_cStep rs_step q0
    obtain ⟨A2, c2, l2, rfl, i2, _, j2⟩ := ro_ints Try.underlying23 Try.underlying3 rs_cInt q2
    obtain ⟨A5, c5, l5, rfl, i5, _, j5⟩ := ro_slice k88 Try.underlying26 rs_cEntry rs_entry g3
    simp only [List.cons.injEq, and_true] at e1 e3 e4
    subst e1
    subst e3
    subst e4
    exact ⟨A0, c0, l0, a1, A2, c2, l2, a3, a4, A5, c5, l5, rfl, j0, i0, j2, i2, j5, i5⟩
set_option maxRecDepth 10000 in
theorem rs_pipe {r : Reach} {b0 : Nat} {v : Value} {d : DataW H} {p : List MemPlace} (hv : Value.okWide Try.prog w r b0 30 v) (h : DataW.Trod enc Try.prog w base spare held 30 v d p) : ∃ a b : Int, v = .agg #[.int .i64 a, .int .i64 b] := by
  obtain ⟨cs, rfl, hcs⟩ := okWide_struct Try.underlying30 hv
  rw [rs_cPipe] at hcs
  obtain ⟨cs⟩ := cs
  match cs, hcs with
  | [v0, v1], _ =>
    obtain ⟨fuel, hf⟩ := h
    obtain ⟨a, b, e⟩ := ro_two (cs := [v0, v1]) (t := 3) Try.underlying30 ⟨rfl, rfl⟩ ⟨rfl, rfl⟩ Try.underlying3 rs_cInt rfl hf
    simp only [Value.cells, List.cons.injEq, and_true] at e
    obtain ⟨rfl, rfl⟩ := e
    exact ⟨a, b, rfl⟩
end
section
open Go.ChangeShapes Go.WideShapes Go.ChangeAt
set_option maxRecDepth 100000 in
theorem lifted (os : Os) (started : os.Started) (H : Type) (enc : TypeId × Value → H) :
    ReturnsInHanded {} Try.checked os 3 .any (Rows.fnExactShopFaultSpec.pre6 enc Try.prog Try.f3 Rows.fnExactShopFaultRow.domain false) (Rows.fnExactShopFaultSpec.post enc Try.prog Try.f3 false true false false) := by
  refine returnsInHanded_of_change_sized (C := Try.checked) rs_own started (by kernel_rfl) Try.func3
    (ChangeSpec.witness6 (enc := enc) (C := Try.checked) false ⟨#[], #[.agg #[.slice none 0 0, .int .i64 0, .slice none 0 0, .int .i64 0, .int .i64 0, .slice none 0 0], .agg #[.int .i64 0, .int .i64 0], .int .i64 0], []⟩ 8 (by kernel_rfl) (by kernel_rfl) (by kernel_rfl) (by kernel_rfl)) ?_
  intro W base args ds gs before hval0 hW hcnd hsz0 _
  have hval : ∀ (j : Nat) t v, Try.f3.params[j]? = some t → args[j]? = some v → Value.okWide Try.prog W .any base t v := hval0
  have hW' := hW
  obtain ⟨p, q, hA0, hV, rfl, hfz, hnd⟩ := hW
  have hA : DataW.TrodAll enc Try.prog W 0 (fun _ => true) true Try.f3.params.toList args.toList ds p := hA0
  rw [Try.params3] at hA hval
  obtain ⟨v0, vs0, d0, ds0, p0, q0, hargs, rfl, rfl, h0, r0⟩ := trodAll_cons hA
  obtain ⟨v1, vs1, d1, ds1, p1, q1, rfl, rfl, rfl, h1, r1⟩ := trodAll_cons r0
  obtain ⟨v2, vs2, d2, ds2, p2, q2, rfl, rfl, rfl, h2, r2⟩ := trodAll_cons r1
  obtain ⟨rfl, rfl, rfl⟩ := trodAll_nil r2
  obtain rfl : args = #[v0, v1, v2] := by cases args; simp_all
  obtain ⟨rfl, rfl⟩ := trodVars_none hV
  have k0 := h0
  have lt0 : ∀ x ∈ p0, x.block < W.heap.size := by obtain ⟨m, hm⟩ := k0; exact DataW.trod_lt m _ _ _ hm
  have k1 := h1
  have lt1 : ∀ x ∈ p1, x.block < W.heap.size := by obtain ⟨m, hm⟩ := k1; exact DataW.trod_lt m _ _ _ hm
  obtain ⟨A0, c0, l0, a1, A2, c2, l2, a3, a4, A5, c5, l5, rfl, j0, i0, j2, i2, j5, i5⟩ := rs_shop (hval 0 28 v0 rfl rfl) h0
  obtain ⟨b1, b2, rfl⟩ := rs_pipe (hval 1 30 v1 rfl rfl) h1
  obtain ⟨b3, rfl, rfl, rfl, w2⟩ := open_int Try.underlying3 (hval 2 3 v2 rfl rfl) h2
  clear hA0 hval0 hsz0
  refine (laws_FnExactShopFault.calls 1048600 A0 c0 l0 a1 A2 c2 l2 a3 a4 A5 c5 l5 b1 b2 b3 true W j0 i0 j2 i2 j5 i5 (pw_lawShopFault 1048600 (Nat.le_refl _) l0 a1 l2 a3 a4 l5 b1 b2 b3 j0.2.1 j2.2.1 j5.2.1)).mono fun e W' ⟨he, bel⟩ => ?_
  subst he
  exact ⟨_, rfl, _, _, _, [], _, [], hW', trodAll_mk1 (shut_bool Try.underlying4 _), (trodAll_cons_mk (Below.trod rs_laid (by kernel_rfl) (of_decide_eq_true (by kernel_rfl)) k0 bel lt0) (trodAll_cons_mk (Below.trod rs_laid (by kernel_rfl) (of_decide_eq_true (by kernel_rfl)) k1 bel lt1) (trodAll_cons_mk (shut_int Try.underlying3 w2) trodAll_mk0))), rfl, bel.frame _, fun h => by cases h⟩
theorem over : Rows.fnExactShopFaultRow.holds Try.pinned (OpenSpec.ofChange Rows.fnExactShopFaultSpec) :=
  OpenClaim.holds_of_wide 3 Try.f3 rfl rfl rfl rfl rfl rfl rfl ⟨rfl, rfl, rfl, rfl, rfl⟩ rfl rfl rfl rfl rfl (by kernel_rfl) Try.func3 (by kernel_rfl)
    (of_decide_eq_true (by kernel_rfl)) (by unfold Func.isWrapper; first | (rw [if_pos (by decide +kernel)]; kernel_rfl) | (rw [if_neg (by decide +kernel)]; exact ⟨rfl, rfl⟩))
    (fun os started H enc _ => lifted os started H enc)
theorem fnExactShopFault_holds : Rows.FnExactShopFaultSaid := over
end
end Go.Proofs.Ytpbhoembdoofiaa.B
