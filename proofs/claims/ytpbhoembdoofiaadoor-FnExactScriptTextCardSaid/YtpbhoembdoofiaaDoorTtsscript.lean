/- spec.ScriptText comes to the same text. Conditions: none but those that each statement names. -/
import Derived.Lib.BufferRead
import Derived.Test.YtpbhoembdoofiaaDoorTtscript
namespace Go.Proofs.YtpbhoembdoofiaaDoor.T
open Go.RowKit
set_option linter.unusedVariables false
set_option linter.unusedSimpArgs false
theorem byteInfo : (Tryd.prog.info? 5).map (fun i => (i.zero, i.size, i.bytes)) = some (some (.int .u8 0), 1, 1) := by kernel_rfl
theorem str_cells (l : List UInt8) : Lib.strCells ⟨l.toArray⟩ = Lib.byteCells l := by simp [Lib.strCells, Lib.byteCells]
theorem conv_own (w : World) (base : Nat) (v : Value) (l : List UInt8) (h : w.ownsRow base 5 1 v l.length (Lib.byteCells l)) : ∃ A c, v = .slice A l.length c ∧ (convert 36 9 (.slice A l.length c)).run Tryd.prog w = .ok (.string ⟨l.toArray⟩) w := by
  rcases h.2 with ⟨rfl, h0⟩ | ⟨g, cap, cur, rfl, hg, hh, h1, h2, h3, h4⟩
  · have e : l = [] := List.length_eq_zero_iff.1 h0
    subst e
    exact ⟨none, 0, rfl, Lib.run_convert_nil_bytes w 36 9 5 0 Tryd.underlying36 Tryd.underlying5 Tryd.underlying9⟩
  · refine ⟨_, cap, rfl, run_convert_bytes_back w 36 9 5 ⟨g, 0, none⟩ cap l Tryd.underlying36 Tryd.underlying5 Tryd.underlying9 (fun j hj => ?_)⟩
    exact h.cells (g := g) rfl j _ (by simp [Lib.byteCells, List.getElem?_eq_getElem hj])
set_option maxHeartbeats 2000000 in
set_option maxRecDepth 100000 in
theorem spec_ScriptText_any (v : Value) (xs : List Ac) (w : World) (hr : RowS w v xs) : Calls Tryd.prog 12 #[v] w fun e w' => e = .returned (.tuple #[.string ⟨(scR xs).toArray⟩, .bool (scB xs)]) ∧ Below w.heap.size w w' := by
  obtain ⟨A, c, rfl, hcap, hlen⟩ := hr.slice
  obtain ⟨i0, hi, hz0, hz1, hz2⟩ := info_parts byteInfo
  have HR := Sd.mk hr
  have hu1 := Tryd.underlying26
  clear hr
  by_cases h40 : 40 < xs.length
  · have HN := Sd.mk (show scB xs = false by unfold scB; rw [decide_eq_false (by omega), Bool.false_and])
    have d1 : decide ((40 : Int) < (xs.length : Int)) = true := decide_eq_true (by omega)
    have d2 : decide ((0 : Int) < (xs.length : Int)) = true := decide_eq_true (by omega)
    obtain ⟨b, o, rfl, x0, x1, x2, x3⟩ := RowS.at HR.out 0 (by omega)
    rw [Nat.zero_mul, Nat.add_zero] at x0 x1 x2 x3
    obtain ⟨e, HE⟩ : ∃ e, Sd (e = xs.getD 0 zS) := ⟨_, ⟨rfl⟩⟩
    rw [← HE.out] at x0 x1 x2 x3
    replace x0 := cell_on (below_al (Below.refl _ _) (.cells #[] 5 (0, 0))) x0
    replace x1 := cell_on (below_al (Below.refl _ _) (.cells #[] 5 (0, 0))) x1
    replace x2 := cell_on (below_al (Below.refl _ _) (.cells #[] 5 (0, 0))) x2
    replace x3 := cell_on (below_al (Below.refl _ _) (.cells #[] 5 (0, 0))) x3
    cases b1 : acB e
    all_goals
      go_enter Tryd.func12, Tryd.ntmps12
      go_wp2
      refine wp_loop_rounds 1 ?_
      rw [rounds_succ]
      go_wp2_with (first | (go_at_call 8; refine (sfmt_ac e b1 _).mono ?_; rintro _ w1 ⟨rfl, hb1⟩; have HB1 := sS (s0 w) hb1; clear hb1))
      go_ret2
      exact ⟨by simp [scR, HN.out], HB1.out⟩
  · have d1 : decide ((40 : Int) < (xs.length : Int)) = false := decide_eq_false (by omega)
    go_enter Tryd.func12, Tryd.ntmps12
    go_wp2
    go_loopw [4, 5] (fun u i wr => ∃ k : Nat, k ≤ xs.length ∧ i = .int .i64 k ∧ Sd (∀ j, j < k → acB (xs.getD j zS) = true) ∧ Sd (wr.ownsRow w.heap.size 5 1 u (scT (xs.take k)).length (Lib.byteCells (scT (xs.take k)))) ∧ Sd (Below w.heap.size w wr)) (fun _ i _ => xs.length - (intOf i).toNat)
    case atStart => exact ⟨0, Nat.zero_le _, rfl, ⟨fun j hj => by omega⟩, ⟨World.ownsRow_made _ _ _ (Nat.le_refl _) (Nat.zero_le _) rfl⟩, ⟨below_al (Below.refl _ _) _⟩⟩
    case round =>
      obtain ⟨k, hk, rfl, HA, HO, HB⟩ := hrel
      by_cases hlt : k < xs.length
      · obtain ⟨b, o, rfl, x0, x1, x2, x3⟩ := RowS.at HR.out k hlt
        replace x0 := cell_on HB.out x0
        replace x1 := cell_on HB.out x1
        replace x2 := cell_on HB.out x2
        replace x3 := cell_on HB.out x3
        have HS := Sd.mk (scT_snoc xs k hlt)
        have HLT := Sd.mk hlt
        obtain ⟨e, HE⟩ : ∃ e, Sd (e = xs.getD k zS) := ⟨_, ⟨rfl⟩⟩
        rw [← HE.out] at x0 x1 x2 x3 HS
        cases b1 : acB e
        · have HN := Sd.mk (scB_no HLT.out (by rw [← HE.out]; exact b1))
          go_wp2_with (first | (go_at_call 8; refine (sfmt_ac e b1 _).mono ?_; rintro _ w1 ⟨rfl, hb1⟩; have HB1 := sS HB hb1; clear hb1))
          go_ret2
          exact ⟨by simp [scR, HN.out], HB1.out⟩
        · have hf := fmtT_len e.f0 e.f1 e.f2 e.f3
          have HL := Sd.mk (show (scT (xs.take k)).length + (acT e).length ≤ 1000000 by
            have h1 := scT_len (xs.take k)
            have h2 := acT_len e
            rw [List.length_take] at h1
            omega)
          go_wp2_with (first | (go_at_call 8; refine (sfmt_ac e b1 _).mono ?_; rintro _ w1 ⟨rfl, hb1⟩; have HB1 := sS HB hb1; have HO1 := Sd.mk (own_below HO.out hb1); clear hb1) | (at_builtin; refine Lib.wpList_append_own_string _ rfl _ _ 36 9 rfl w.heap.size 5 i0 Tryd.underlying36 Tryd.underlying9 hi hz0 hz1 hz2 _ _ _ rfl HO1.out ⟨(acT e).toArray⟩ (congrArg Value.string (str_app _ _)) (by have := HL.out; simp [ByteArray.size]; unfold maxLen; omega) (by have := HL.out; simp [ByteArray.size]; omega) HB1.out.size ?_; intro v' w2 hown hgrow _; have HB2 := Sd.mk (below_grew HB1.out HO1.out hgrow); have HO2 := Sd.mk hown; clear hown hgrow))
          go_roundw
          case rel => exact ⟨k + 1, by omega, by go_num, ⟨fun j hj => by by_cases e1 : j = k; (subst e1; rw [← HE.out]; exact b1); exact HA.out j (by omega)⟩, ⟨by rw [HS.out, bytes_app, List.length_append, ← str_cells (acT e)]; have h9 := HO2.out; simpa [ByteArray.size] using h9⟩, HB2⟩
          case measure => simp [intOf]; omega
      · obtain rfl : k = xs.length := by omega
        have HY := Sd.mk (scB_yes (by omega) HA.out)
        have ho := HO.out
        rw [List.take_length] at ho
        obtain ⟨A1, c1, rfl, hcv⟩ := conv_own _ _ _ _ ho
        clear ho
        go_wp2
        go_ret2
        exact ⟨by simp [scR, HY.out], HB.out⟩

end Go.Proofs.YtpbhoembdoofiaaDoor.T
