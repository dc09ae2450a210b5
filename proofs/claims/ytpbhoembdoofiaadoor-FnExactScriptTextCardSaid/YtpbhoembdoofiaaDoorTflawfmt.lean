/- The law FnExactFormatAct returns true: both texts are one function of the act. Conditions: none but those that each statement names. -/
import Derived.Deep.Cut
import Derived.Deep.DeepCutAuto
import Derived.Test.YtpbhoembdoofiaaDoorTespecfmt
namespace Go.Proofs.YtpbhoembdoofiaaDoor.T
open Go.RowKit
set_option linter.unusedVariables false
set_option linter.unusedSimpArgs false
set_option maxRecDepth 100000 in
theorem toAct_any (k a b c : Int) (w : World) : Calls Tryd.prog 9 #[.agg #[.int .i64 k, .int .i64 a, .int .i64 b, .int .i64 c]] w fun e w' => e = .returned (.agg #[.int .i64 k, .int .i64 a, .int .i64 b, .int .i64 c]) ∧ Below w.heap.size w w' := by
  have hu := Tryd.underlying26
  have hu2 := Tryd.underlying23
  go_enter Tryd.func9, Tryd.ntmps9
  go_wp2
  refine bodyPost_ret (v := .agg #[.int .i64 k, .int .i64 a, .int .i64 b, .int .i64 c]) (by simp [results, Tryd.results9, go_sem]) rfl ⟨rfl, (bW (Lib.hid (Below.refl w.heap.size w))).out⟩
theorem sfmt_str (k a b c : Int) (w : World) : Calls Tryd.prog 8 #[.agg #[.int .i64 k, .int .i64 a, .int .i64 b, .int .i64 c]] w fun e w' => e = .returned (.tuple #[.string ⟨(fmtT k a b c).toArray⟩, .bool (actB k a b c)]) ∧ Below w.heap.size w w' := spec_FormatAct_any k a b c w
theorem ifmt_str (k a b c : Int) (w : World) (hT : Tab w) : Calls Tryd.prog 10 #[.agg #[.int .i64 k, .int .i64 a, .int .i64 b, .int .i64 c]] w fun e w' => e = .returned (.tuple #[.string ⟨(fmtT k a b c).toArray⟩, .bool (actB k a b c)]) ∧ Below w.heap.size w w' := impl_FormatAct_any k a b c w hT
set_option maxHeartbeats 1000000 in
set_option maxRecDepth 100000 in
theorem law_any (k a b c : Int) (w : World) (hT : Tab w) : Calls Tryd.prog 3 #[.agg #[.int .i64 k, .int .i64 a, .int .i64 b, .int .i64 c]] w fun e w' => e = .returned (.bool true) ∧ Below w.heap.size w w' := by
  have hu := Tryd.underlying26
  have hu2 := Tryd.underlying23
  have HT := Lib.hid hT
  clear hT
  go_enter Tryd.func3, Tryd.ntmps3
  go_upto_region 2 with (first | (go_at_call 9; refine (toAct_any _ _ _ _ _).mono ?_; rintro e w1 ⟨rfl, hb⟩; obtain ⟨F1, G1⟩ := bcell hb; have L1 := lt_below hb; have HB1 := bS (Lib.hid (Below.refl w.heap.size w)) hb; clear hb) | (go_at_call 8; refine (sfmt_str _ _ _ _ _).mono ?_; rintro e w2 ⟨rfl, hb⟩; obtain ⟨F2, G2⟩ := bcell hb; have L2 := Nat.lt_of_lt_of_le L1 hb.size; have HB2 := bS HB1 hb; clear hb))
  go_wp2_with (first | (go_at_call 9; refine (toAct_any _ _ _ _ _).mono ?_; rintro e w3 ⟨rfl, hb⟩; have HB3 := bS HB2 hb; have HT3 := Lib.hid (HT.out.below HB3.out); clear hb) | (go_at_call 10; refine (ifmt_str _ _ _ _ _ HT3.out).mono ?_; rintro e w4 ⟨rfl, hb⟩; have HB4 := bS HB3 hb; clear hb))
  go_ret
  exact ⟨rfl, HB4.out⟩

end Go.Proofs.YtpbhoembdoofiaaDoor.T
