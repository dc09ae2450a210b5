/- A list of acts is copied element by element. Conditions: none but those that each statement names. -/
import Derived.Laws.MakeOwn
import Derived.Laws.NewBlocks
import Derived.Test.YtpbhoembdoofiaaDoorTsacts
namespace Go.Proofs.YtpbhoembdoofiaaDoor.T
open Go.RowKit
set_option linter.unusedVariables false
set_option linter.unusedSimpArgs false
/-- Block g holds n structs of four whole numbers, the first k of them those of xs. -/
def Filled (w : World) (g ty n : Nat) (xs : List Stp) (k : Nat) : Prop := ∃ cur, w.heap[g]? = some (.cells cur ty (0, 0)) ∧ cur.size = n * 4 ∧ ∀ i x, i < k → xs[i]? = some x → cur[i * 4]? = some (.int .i64 x.f0) ∧ cur[i * 4 + 1]? = some (.int .i64 x.f1) ∧ cur[i * 4 + 2]? = some (.int .i64 x.f2) ∧ cur[i * 4 + 3]? = some (.int .i64 x.f3)
theorem Filled.below {w w1 : World} {g ty n : Nat} {xs : List Stp} {k : Nat} (h : Filled w g ty n xs k) (hb : Below w.heap.size w w1) : Filled w1 g ty n xs k := by
  obtain ⟨cur, h1, h2⟩ := h
  exact ⟨cur, blk_below h1 hb, h2⟩
theorem Filled.cells {w : World} {g ty n : Nat} {xs : List Stp} {k : Nat} (h : Filled w g ty n xs k) (hk : k < n) : ∃ u0 u1 u2 u3, w.cell? ⟨g, k * 4, none⟩ = some u0 ∧ w.cell? ⟨g, k * 4 + 1, none⟩ = some u1 ∧ w.cell? ⟨g, k * 4 + 2, none⟩ = some u2 ∧ w.cell? ⟨g, k * 4 + 3, none⟩ = some u3 := by
  obtain ⟨cur, h1, h2, _⟩ := h
  refine ⟨cur[k * 4]'(by omega), cur[k * 4 + 1]'(by omega), cur[k * 4 + 2]'(by omega), cur[k * 4 + 3]'(by omega), ?_, ?_, ?_, ?_⟩ <;> rw [blk_cell h1] <;> exact Array.getElem?_eq_getElem _
theorem Filled.frozen {w : World} {g ty n : Nat} {xs : List Stp} {k : Nat} (h : Filled w g ty n xs k) (j : Nat) : w.frozen? ⟨g, j, none⟩ = false := by
  obtain ⟨cur, h1, _⟩ := h
  exact blk_frozen h1 j
theorem Filled.put {w : World} {g ty n : Nat} {xs : List Stp} {k : Nat} (h : Filled w g ty n xs k) (hk : k < n) (x : Stp) (hx : xs[k]? = some x) : Filled ((((w.setCell ⟨g, k * 4, none⟩ (.int .i64 x.f0)).setCell ⟨g, k * 4 + 1, none⟩ (.int .i64 x.f1)).setCell ⟨g, k * 4 + 2, none⟩ (.int .i64 x.f2)).setCell ⟨g, k * 4 + 3, none⟩ (.int .i64 x.f3)) g ty n xs (k + 1) := by
  obtain ⟨cur, h1, h2, h3⟩ := h
  refine ⟨_, blk_put (blk_put (blk_put (blk_put h1 _ _) _ _) _ _) _ _, by simp [h2], fun i y hi hy => ?_⟩
  by_cases e : i = k
  · subst e
    obtain rfl := Option.some.inj (hx.symm.trans hy)
    simp only [Array.getElem?_setIfInBounds, Array.size_setIfInBounds, h2]
    refine ⟨?_, ?_, ?_, ?_⟩ <;> simp <;> omega
  · obtain ⟨c0, c1, c2, c3⟩ := h3 i y (by omega) hy
    simp only [Array.getElem?_setIfInBounds, Array.size_setIfInBounds, h2]
    rw [if_neg (by omega), if_neg (by omega), if_neg (by omega), if_neg (by omega), if_neg (by omega), if_neg (by omega), if_neg (by omega), if_neg (by omega), if_neg (by omega), if_neg (by omega), if_neg (by omega), if_neg (by omega), if_neg (by omega), if_neg (by omega), if_neg (by omega), if_neg (by omega)]
    exact ⟨c0, c1, c2, c3⟩
theorem Filled.row {w : World} {g ty : Nat} {xs : List Stp} (h : Filled w g ty xs.length xs xs.length) (hn : xs.length ≤ 9223372036854775807) : RowS w (.slice (some ⟨g, 0, none⟩) xs.length xs.length) xs := by
  obtain ⟨cur, h1, h2, h3⟩ := h
  refine ⟨_, _, rfl, Nat.le_refl _, hn, fun _ => ⟨g, 0, rfl, blk_lt h1, fun k x hk j u hu => ?_⟩⟩
  obtain ⟨c0, c1, c2, c3⟩ := h3 k x (List.getElem?_eq_some_iff.1 hk).1 hk
  rw [blk_cell h1, Nat.zero_add]
  rcases j with _ | _ | _ | _ | j
  · simp [encS] at hu; subst hu; exact c0
  · simp [encS] at hu; subst hu; exact c1
  · simp [encS] at hu; subst hu; exact c2
  · simp [encS] at hu; subst hu; exact c3
  · simp [encS] at hu
theorem actInfo : (Tryd.prog.info? 26).map (fun i => (i.zero, i.size, i.bytes)) = some (some (.agg #[.int .i64 0, .int .i64 0, .int .i64 0, .int .i64 0]), 4, 32) := by kernel_rfl
set_option maxRecDepth 100000 in
theorem make_acts (n : Nat) (hn : n ≤ 1048576) : ∃ C : Array Value, C.size = n * 4 ∧ ∀ W : World, (Instr.makeSlice 32 (.int .i64 n) (.int .i64 n)).run Tryd.prog W = .ok (.slice (some ⟨W.heap.size, 0, none⟩) n n) (W.alloc (.cells C 26 (0, 0))) := by
  obtain ⟨i0, hi, hz0, hz1, hz2⟩ := info_parts actInfo
  refine ⟨_, ?_, fun W => run_make W 32 26 i0 _ Tryd.underlying32 hi hz0 .i64 .i64 n n (by omega) (Int.le_refl _) (by rw [hz2]; omega) (by omega)⟩
  rw [size_madeCells, hz1]
  simp
set_option maxHeartbeats 1000000 in
set_option maxRecDepth 100000 in
theorem toActS_any (v : Value) (xs : List Ac) (w : World) (hr : RowS w v xs) (hn : xs.length ≤ 1048576) : Calls Tryd.prog 13 #[v] w fun e w' => ∃ u, e = .returned u ∧ RowS w' u xs ∧ Below w.heap.size w w' := by
  obtain ⟨A, c, rfl, hcap, hlen⟩ := hr.slice
  have HR := Sd.mk hr
  have hu1 := Tryd.underlying26
  have hu2 := Tryd.underlying23
  clear hr
  obtain ⟨C, hC, hmk⟩ := make_acts xs.length hn
  have HC := Sd.mk hC
  clear hC
  go_enter Tryd.func13, Tryd.ntmps13
  go_wp2
  clear hmk
  go_loopw [4] (fun i wr => ∃ k : Nat, k ≤ xs.length ∧ i = .int .i64 k ∧ Sd (Filled wr w.heap.size 26 xs.length xs k) ∧ Sd (Below w.heap.size w wr)) (fun i _ => xs.length - (intOf i).toNat)
  case atStart => exact ⟨0, Nat.zero_le _, rfl, ⟨C, blk_new _ _, HC.out, fun i x hi => by omega⟩, ⟨below_al (Below.refl _ _) _⟩⟩
  case round =>
    obtain ⟨k, hk, rfl, HF, HB⟩ := hrel
    by_cases hlt : k < xs.length
    · obtain ⟨b, o, rfl, x0, x1, x2, x3⟩ := RowS.at HR.out k hlt
      replace x0 := cell_on HB.out x0
      replace x1 := cell_on HB.out x1
      replace x2 := cell_on HB.out x2
      replace x3 := cell_on HB.out x3
      obtain ⟨e, HE⟩ : ∃ e, Sd (e = xs.getD k zS) := ⟨_, ⟨rfl⟩⟩
      rw [← HE.out] at x0 x1 x2 x3
      have HLT := Sd.mk hlt
      go_wp2_with (go_at_call 9; refine (toAct_any _ _ _ _ _).mono ?_; rintro _ w1 ⟨rfl, hb1⟩; have HF1 := Sd.mk (HF.out.below hb1); have HB1 := sS HB hb1; obtain ⟨u0, u1, u2, u3, y0, y1, y2, y3⟩ := HF1.out.cells HLT.out; have z0 := HF1.out.frozen (k * 4); have z1 := HF1.out.frozen (k * 4 + 1); have z2 := HF1.out.frozen (k * 4 + 2); have z3 := HF1.out.frozen (k * 4 + 3); clear hb1)
      go_roundw
      case rel => exact ⟨k + 1, by omega, by go_num, ⟨HF1.out.put HLT.out e (by rw [HE.out]; exact getD_at HLT.out zS)⟩, ⟨bB HB1⟩⟩
      case measure => simp [intOf]; omega
    · obtain rfl : k = xs.length := by omega
      have HF1 := HF.out.row hlen
      go_wp2
      go_ret
      exact ⟨_, rfl, HF1, HB.out⟩

end Go.Proofs.YtpbhoembdoofiaaDoor.T
