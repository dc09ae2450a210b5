/- Lists of acts: copied, compared, measured. Conditions: none but those that each statement names. -/
import Derived.Laws.MakeOwn
import Derived.Laws.NewBlocks
import Derived.Test.YtpbhoembdoofiaaDoorTobw
import Derived.Test.YtpbhoembdoofiaaDoorTflawfmt
namespace Go.Proofs.YtpbhoembdoofiaaDoor.T
open Go.RowKit
set_option linter.unusedVariables false
set_option linter.unusedSimpArgs false
abbrev Ac := Stp
theorem szActS_any (v : Value) (xs : List Ac) (left : Int) (w : World) (hr : RowS w v xs) (h0 : left = 1048576) : Calls Tryd.prog 11 #[v, .int .i64 left] w fun e w' => e = .returned (.int .i64 (if xs.length ≤ 1048576 then 1048576 - (xs.length : Int) else -1)) ∧ w = w' := by
  obtain ⟨A, c, rfl, hcap, hlen⟩ := hr.slice
  subst h0
  clear hr
  by_cases h : xs.length ≤ 1048576
  · go_enter Tryd.func11, Tryd.ntmps11
    go_wp2
    go_ret
    simp [h]
  · go_enter Tryd.func11, Tryd.ntmps11
    go_wp2
    go_ret
    simp [h]
set_option maxHeartbeats 1000000 in
set_option maxRecDepth 100000 in
theorem eqAct_any (x y : Ac) (w : World) (h : x = y) : Calls Tryd.prog 30 #[.agg #[.int .i64 x.f0, .int .i64 x.f1, .int .i64 x.f2, .int .i64 x.f3], .agg #[.int .i64 y.f0, .int .i64 y.f1, .int .i64 y.f2, .int .i64 y.f3]] w fun e w' => e = .returned (.bool true) ∧ Below w.heap.size w w' := by
  subst h
  have hu := Tryd.underlying26
  go_enter Tryd.func30, Tryd.ntmps30
  go_wp2
  go_ret
  exact ⟨rfl, bB (s0 w)⟩
set_option maxHeartbeats 1000000 in
set_option maxRecDepth 100000 in
theorem eqActS_any (u v : Value) (xs : List Ac) (w : World) (hu : RowS w u xs) (hv : RowS w v xs) : Calls Tryd.prog 15 #[u, v] w fun e w' => e = .returned (.bool true) ∧ Below w.heap.size w w' := by
  obtain ⟨A, c, rfl, hcap, hlen⟩ := hu.slice
  obtain ⟨A', c', rfl, hcap', _⟩ := hv.slice
  have HU := Sd.mk hu
  have HV := Sd.mk hv
  have hu1 := Tryd.underlying26
  clear hu hv
  go_enter Tryd.func15, Tryd.ntmps15
  go_wp2
  go_loopw [5] (fun i wr => ∃ k : Nat, k ≤ xs.length ∧ i = .int .i64 k ∧ Sd (Below w.heap.size w wr)) (fun i _ => xs.length - (intOf i).toNat)
  case atStart => exact ⟨0, Nat.zero_le _, rfl, s0 w⟩
  case round =>
    obtain ⟨k, hk, rfl, HB⟩ := hrel
    by_cases hlt : k < xs.length
    · obtain ⟨b, o, rfl, x0, x1, x2, x3⟩ := RowS.at HU.out k hlt
      obtain ⟨b', o', rfl, y0, y1, y2, y3⟩ := RowS.at HV.out k hlt
      have p0 := cell_bw (cell_on HB.out x0)
      have p1 := cell_bw (cell_on HB.out x1)
      have p2 := cell_bw (cell_on HB.out x2)
      have p3 := cell_bw (cell_on HB.out x3)
      have q0 := cell_bw (cell_on HB.out y0)
      have q1 := cell_bw (cell_on HB.out y1)
      have q2 := cell_bw (cell_on HB.out y2)
      have q3 := cell_bw (cell_on HB.out y3)
      clear x0 x1 x2 x3 y0 y1 y2 y3
      have l0 : (0 : Int) ≤ (k : Int) := by omega
      have l1 : (k : Int) < (xs.length : Int) := by omega
      go_wp2
      refine region_bw (by kernel_rfl) (by kernel_rfl) ?_
      repeat (first | go_big_quiet_step (first | (go_at_call 30; exact call_bw _ (eqAct_any _ _ _ rfl))) | quiet_step (first | (go_at_call 30; exact call_bw _ (eqAct_any _ _ _ rfl))))
      refine wpQuiet_nil ?_
      intro _ hw'
      obtain ⟨x, rfl⟩ := hw'
      clear p0 p1 p2 p3 q0 q1 q2 q3
      go_wp2
      go_roundw
      case rel => exact ⟨k + 1, by omega, by go_num, bw_end HB x⟩
      case measure => simp [intOf]; omega
    · have hz : k = xs.length := by omega
      subst hz
      go_wp2
      go_ret
      exact ⟨rfl, HB.out⟩

end Go.Proofs.YtpbhoembdoofiaaDoor.T
