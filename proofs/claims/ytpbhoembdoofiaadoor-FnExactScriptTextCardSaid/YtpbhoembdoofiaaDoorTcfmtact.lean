/- impl.FormatAct: the text of a valid act. Conditions: none but those that each statement names. -/
import Derived.Lib.SlBytesConst
import Derived.Test.YtpbhoembdoofiaaDoorTbwords
namespace Go.Proofs.YtpbhoembdoofiaaDoor.T
open Go.RowKit
set_option linter.unusedVariables false
set_option linter.unusedSimpArgs false
def actT (k a b c : Int) : List UInt8 :=
  if k = 1 then [116, 117, 110, 101]
  else if k = 2 then [119, 97, 114, 109, 32] ++ wordsB [a]
  else if k = 3 then [102, 97, 117, 108, 116, 32] ++ wordsB [a, b, c]
  else if k = 4 then [107, 110, 111, 99, 107, 32] ++ wordsB [a, b]
  else if k = 5 then [114, 101, 112, 97, 105, 114]
  else if k = 6 then [108, 101, 102, 116]
  else [104, 101, 97, 114, 100, 32] ++ wordsB [a]
def fmtT (k a b c : Int) : List UInt8 := if actB k a b c = true then actT k a b c else []
theorem actB_in {k a b c : Int} (h : actB k a b c = true) : (k = 1 ∨ k = 5 ∨ k = 6 ∨ k = 2 ∨ k = 3 ∨ k = 4 ∨ k = 7) ∧ -100000 ≤ a ∧ a ≤ 100000 ∧ -100000 ≤ b ∧ b ≤ 100000 ∧ -100000 ≤ c ∧ c ≤ 100000 := by
  unfold actB inB at h
  repeat' split at h
  all_goals (simp only [Bool.and_eq_true, beq_iff_eq, decide_eq_true_eq, Bool.false_eq_true] at h)
  all_goals omega
theorem act_is {k a b c : Int} {r : Bool} (h : actB k a b c = r) (w : World) : Calls Tryd.prog 33 #[.agg #[.int .i64 k, .int .i64 a, .int .i64 b, .int .i64 c]] w fun e w' => e = .returned (.bool r) ∧ Below w.heap.size w w' := by have hc := impl_ActOk_any k a b c w; rw [h] at hc; exact hc
theorem row_new {W : World} {l : List Int} {t : Nat} : ∀ j x, l[j]? = some x → (W.alloc (.cells (l.map (Value.int .i64)).toArray t (0, 0))).cell? ⟨W.heap.size, 0 + j, none⟩ = some (.int .i64 x) := by
  intro j x h
  rw [World.cell?_alloc_new]
  simp [h]
set_option maxHeartbeats 1000000 in
set_option maxRecDepth 100000 in
theorem impl_FormatAct_any (k a b c : Int) (w : World) (hT : Tab w) : Calls Tryd.prog 10 #[.agg #[.int .i64 k, .int .i64 a, .int .i64 b, .int .i64 c]] w fun e w' => e = .returned (.tuple #[strV (fmtT k a b c), .bool (actB k a b c)]) ∧ Below w.heap.size w w' := by
  have hu := Tryd.underlying26
  have HT := Lib.hid hT
  clear hT
  cases h1 : actB k a b c
  · go_enter Tryd.func10, Tryd.ntmps10
    go_wp2_with (go_at_call 33; refine (act_is h1 _).mono ?_; rintro e w1 ⟨rfl, hb⟩)
    go_ret2
    exact ⟨by simp [fmtT, h1, strV], ((Below.refl _ _).alloc (Nat.le_refl _) _).trans (hb.mono (by simp))⟩
  · obtain ⟨hk, a0, a1, b0, b1, c0, c1⟩ := actB_in h1
    rcases hk with rfl | rfl | rfl | rfl | rfl | rfl | rfl
    · go_enter Tryd.func10, Tryd.ntmps10
      go_wp2_with ((go_at_call 33; refine (act_is h1 _).mono ?_; rintro e w1 ⟨rfl, hb⟩; obtain ⟨F1, G1⟩ := bcell hb; have L1 := lt_below hb; have HT1 := Lib.hid ((HT.out.below ((Below.refl _ _).alloc (Nat.le_refl _) _)).below hb); have HB1 := Lib.hid (((Below.refl _ _).alloc (Nat.le_refl w.heap.size) _).trans (hb.mono (by simp))); clear hb))
      go_ret2
      exact ⟨by simp [fmtT, h1, strV, actT], HB1.out⟩
    · go_enter Tryd.func10, Tryd.ntmps10
      go_wp2_with ((go_at_call 33; refine (act_is h1 _).mono ?_; rintro e w1 ⟨rfl, hb⟩; obtain ⟨F1, G1⟩ := bcell hb; have L1 := lt_below hb; have HT1 := Lib.hid ((HT.out.below ((Below.refl _ _).alloc (Nat.le_refl _) _)).below hb); have HB1 := Lib.hid (((Below.refl _ _).alloc (Nat.le_refl w.heap.size) _).trans (hb.mono (by simp))); clear hb))
      go_ret2
      exact ⟨by simp [fmtT, h1, strV, actT], HB1.out⟩
    · go_enter Tryd.func10, Tryd.ntmps10
      go_wp2_with ((go_at_call 33; refine (act_is h1 _).mono ?_; rintro e w1 ⟨rfl, hb⟩; obtain ⟨F1, G1⟩ := bcell hb; have L1 := lt_below hb; have HT1 := Lib.hid ((HT.out.below ((Below.refl _ _).alloc (Nat.le_refl _) _)).below hb); have HB1 := Lib.hid (((Below.refl _ _).alloc (Nat.le_refl w.heap.size) _).trans (hb.mono (by simp))); clear hb))
      go_ret2
      exact ⟨by simp [fmtT, h1, strV, actT], HB1.out⟩
    · have hw := wordsB_len [a] (by simp) (by simp; omega)
      go_enter Tryd.func10, Tryd.ntmps10
      go_wp2_with (first | (go_at_call 33; refine (act_is h1 _).mono ?_; rintro e w1 ⟨rfl, hb⟩; obtain ⟨F1, G1⟩ := bcell hb; have L1 := lt_below hb; have HT1 := Lib.hid ((HT.out.below ((Below.refl _ _).alloc (Nat.le_refl _) _)).below hb); have HB1 := Lib.hid (((Below.refl _ _).alloc (Nat.le_refl w.heap.size) _).trans (hb.mono (by simp))); clear hb) | (go_at_call 34; go_loud (refine (words_any w1.heap.size 0 1 [a] _ (HT1.out.below ((Below.refl _ _).alloc (Nat.le_refl _) _)) (by simp; omega) (by simp) (by simp) (by simp) (by simp) (row_new (l := [a]))).mono ?_; rintro e w2 ⟨rfl, hb2⟩)))
      go_ret2
      exact ⟨by simp [fmtT, h1, strV, actT]; try rfl, (HB1.out.alloc HB1.out.size _).trans (hb2.mono (by have := HB1.out.size; simp; omega))⟩
    · have hw := wordsB_len [a, b, c] (by simp) (by simp; omega)
      go_enter Tryd.func10, Tryd.ntmps10
      go_wp2_with (first | (go_at_call 33; refine (act_is h1 _).mono ?_; rintro e w1 ⟨rfl, hb⟩; obtain ⟨F1, G1⟩ := bcell hb; have L1 := lt_below hb; have HT1 := Lib.hid ((HT.out.below ((Below.refl _ _).alloc (Nat.le_refl _) _)).below hb); have HB1 := Lib.hid (((Below.refl _ _).alloc (Nat.le_refl w.heap.size) _).trans (hb.mono (by simp))); clear hb) | (go_at_call 34; go_loud (refine (words_any w1.heap.size 0 3 [a, b, c] _ (HT1.out.below ((Below.refl _ _).alloc (Nat.le_refl _) _)) (by simp; omega) (by simp) (by simp) (by simp) (by simp) (row_new (l := [a, b, c]))).mono ?_; rintro e w2 ⟨rfl, hb2⟩)))
      go_ret2
      exact ⟨by simp [fmtT, h1, strV, actT]; try rfl, (HB1.out.alloc HB1.out.size _).trans (hb2.mono (by have := HB1.out.size; simp; omega))⟩
    · have hw := wordsB_len [a, b] (by simp) (by simp; omega)
      go_enter Tryd.func10, Tryd.ntmps10
      go_wp2_with (first | (go_at_call 33; refine (act_is h1 _).mono ?_; rintro e w1 ⟨rfl, hb⟩; obtain ⟨F1, G1⟩ := bcell hb; have L1 := lt_below hb; have HT1 := Lib.hid ((HT.out.below ((Below.refl _ _).alloc (Nat.le_refl _) _)).below hb); have HB1 := Lib.hid (((Below.refl _ _).alloc (Nat.le_refl w.heap.size) _).trans (hb.mono (by simp))); clear hb) | (go_at_call 34; go_loud (refine (words_any w1.heap.size 0 2 [a, b] _ (HT1.out.below ((Below.refl _ _).alloc (Nat.le_refl _) _)) (by simp; omega) (by simp) (by simp) (by simp) (by simp) (row_new (l := [a, b]))).mono ?_; rintro e w2 ⟨rfl, hb2⟩)))
      go_ret2
      exact ⟨by simp [fmtT, h1, strV, actT]; try rfl, (HB1.out.alloc HB1.out.size _).trans (hb2.mono (by have := HB1.out.size; simp; omega))⟩
    · have hw := wordsB_len [a] (by simp) (by simp; omega)
      go_enter Tryd.func10, Tryd.ntmps10
      go_wp2_with (first | (go_at_call 33; refine (act_is h1 _).mono ?_; rintro e w1 ⟨rfl, hb⟩; obtain ⟨F1, G1⟩ := bcell hb; have L1 := lt_below hb; have HT1 := Lib.hid ((HT.out.below ((Below.refl _ _).alloc (Nat.le_refl _) _)).below hb); have HB1 := Lib.hid (((Below.refl _ _).alloc (Nat.le_refl w.heap.size) _).trans (hb.mono (by simp))); clear hb) | (go_at_call 34; go_loud (refine (words_any w1.heap.size 0 1 [a] _ (HT1.out.below ((Below.refl _ _).alloc (Nat.le_refl _) _)) (by simp; omega) (by simp) (by simp) (by simp) (by simp) (row_new (l := [a]))).mono ?_; rintro e w2 ⟨rfl, hb2⟩)))
      go_ret2
      exact ⟨by simp [fmtT, h1, strV, actT]; try rfl, (HB1.out.alloc HB1.out.size _).trans (hb2.mono (by have := HB1.out.size; simp; omega))⟩

end Go.Proofs.YtpbhoembdoofiaaDoor.T
