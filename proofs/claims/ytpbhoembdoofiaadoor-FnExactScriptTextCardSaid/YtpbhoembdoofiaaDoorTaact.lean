/- Whether an act is valid: one Bool function of its four numbers; both Go functions come to it. Conditions: none but those that each statement names. -/
import Derived.Test.YtpbhoembdoofiaaDoorToin
namespace Go.Proofs.YtpbhoembdoofiaaDoor.T
open Go.RowKit
set_option linter.unusedVariables false
set_option linter.unusedSimpArgs false
def actB (k a b c : Int) : Bool :=
  if k = 1 ∨ k = 5 ∨ k = 6 then a == 0 && (b == 0 && c == 0)
  else if k = 2 then inB a (-10) 40 && (b == 0 && c == 0)
  else if k = 3 then inB a 0 3 && (inB b 0 39 && inB c 0 2)
  else if k = 4 then inB a 0 11 && (inB b (-100000) 100000 && c == 0)
  else if k = 7 then inB a 0 11 && (b == 0 && c == 0)
  else false
theorem actB_0 {k a b c : Int} (h1 : k ≠ 1) (h5 : k ≠ 5) (h6 : k ≠ 6) (h2 : k ≠ 2) (h3 : k ≠ 3) (h4 : k ≠ 4) (h7 : k ≠ 7) : actB k a b c = false := by simp [actB, h1, h2, h3, h4, h5, h6, h7]
theorem kinds (k : Int) : k = 1 ∨ k = 5 ∨ k = 6 ∨ k = 2 ∨ k = 3 ∨ k = 4 ∨ k = 7 ∨ (k ≠ 1 ∧ k ≠ 5 ∧ k ≠ 6 ∧ k ≠ 2 ∧ k ≠ 3 ∧ k ≠ 4 ∧ k ≠ 7) := by omega
set_option maxHeartbeats 2000000 in
set_option maxRecDepth 100000 in
theorem spec_act1 (a b c : Int) (w : World) : Calls Tryd.prog 31 #[.agg #[.int .i64 1, .int .i64 a, .int .i64 b, .int .i64 c]] w fun e w' => e = .returned (.bool (actB 1 a b c)) ∧ Below w.heap.size w w' := by
  have hu := Tryd.underlying26
  by_cases h1 : a = 0
  · by_cases h2 : b = 0
    · by_cases h3 : c = 0
      · go_enter Tryd.func31, Tryd.ntmps31
        go_wp2_with (fail)
        go_ret
        simp [actB, h1, h2, h3, Below.alloc, Below.refl]
      · go_enter Tryd.func31, Tryd.ntmps31
        go_wp2_with (fail)
        go_ret
        simp [actB, h1, h2, h3, Below.alloc, Below.refl]
    · go_enter Tryd.func31, Tryd.ntmps31
      go_wp2_with (fail)
      go_ret
      simp [actB, h1, h2, Below.alloc, Below.refl]
  · go_enter Tryd.func31, Tryd.ntmps31
    go_wp2_with (fail)
    go_ret
    simp [actB, h1, Below.alloc, Below.refl]
set_option maxHeartbeats 2000000 in
set_option maxRecDepth 100000 in
theorem spec_act5 (a b c : Int) (w : World) : Calls Tryd.prog 31 #[.agg #[.int .i64 5, .int .i64 a, .int .i64 b, .int .i64 c]] w fun e w' => e = .returned (.bool (actB 5 a b c)) ∧ Below w.heap.size w w' := by
  have hu := Tryd.underlying26
  by_cases h1 : a = 0
  · by_cases h2 : b = 0
    · by_cases h3 : c = 0
      · go_enter Tryd.func31, Tryd.ntmps31
        go_wp2_with (fail)
        go_ret
        simp [actB, h1, h2, h3, Below.alloc, Below.refl]
      · go_enter Tryd.func31, Tryd.ntmps31
        go_wp2_with (fail)
        go_ret
        simp [actB, h1, h2, h3, Below.alloc, Below.refl]
    · go_enter Tryd.func31, Tryd.ntmps31
      go_wp2_with (fail)
      go_ret
      simp [actB, h1, h2, Below.alloc, Below.refl]
  · go_enter Tryd.func31, Tryd.ntmps31
    go_wp2_with (fail)
    go_ret
    simp [actB, h1, Below.alloc, Below.refl]
set_option maxHeartbeats 2000000 in
set_option maxRecDepth 100000 in
theorem spec_act6 (a b c : Int) (w : World) : Calls Tryd.prog 31 #[.agg #[.int .i64 6, .int .i64 a, .int .i64 b, .int .i64 c]] w fun e w' => e = .returned (.bool (actB 6 a b c)) ∧ Below w.heap.size w w' := by
  have hu := Tryd.underlying26
  by_cases h1 : a = 0
  · by_cases h2 : b = 0
    · by_cases h3 : c = 0
      · go_enter Tryd.func31, Tryd.ntmps31
        go_wp2_with (fail)
        go_ret
        simp [actB, h1, h2, h3, Below.alloc, Below.refl]
      · go_enter Tryd.func31, Tryd.ntmps31
        go_wp2_with (fail)
        go_ret
        simp [actB, h1, h2, h3, Below.alloc, Below.refl]
    · go_enter Tryd.func31, Tryd.ntmps31
      go_wp2_with (fail)
      go_ret
      simp [actB, h1, h2, Below.alloc, Below.refl]
  · go_enter Tryd.func31, Tryd.ntmps31
    go_wp2_with (fail)
    go_ret
    simp [actB, h1, Below.alloc, Below.refl]
set_option maxHeartbeats 2000000 in
set_option maxRecDepth 100000 in
theorem spec_act2 (a b c : Int) (w : World) : Calls Tryd.prog 31 #[.agg #[.int .i64 2, .int .i64 a, .int .i64 b, .int .i64 c]] w fun e w' => e = .returned (.bool (actB 2 a b c)) ∧ Below w.heap.size w w' := by
  have hu := Tryd.underlying26
  cases h1 : inB a (-10) 40
  · go_enter Tryd.func31, Tryd.ntmps31
    go_wp2_with (first | (go_at_call_of 54 (Value.int .i64 a); refine (in_is h1 (l01In_any _ _ _ _)).mono ?_; rintro e w' ⟨rfl, rfl⟩))
    go_ret
    simp [actB, h1, Below.alloc, Below.refl]
  · by_cases h2 : b = 0
    · by_cases h3 : c = 0
      · go_enter Tryd.func31, Tryd.ntmps31
        go_wp2_with (first | (go_at_call_of 54 (Value.int .i64 a); refine (in_is h1 (l01In_any _ _ _ _)).mono ?_; rintro e w' ⟨rfl, rfl⟩))
        go_ret
        simp [actB, h1, h2, h3, Below.alloc, Below.refl]
      · go_enter Tryd.func31, Tryd.ntmps31
        go_wp2_with (first | (go_at_call_of 54 (Value.int .i64 a); refine (in_is h1 (l01In_any _ _ _ _)).mono ?_; rintro e w' ⟨rfl, rfl⟩))
        go_ret
        simp [actB, h1, h2, h3, Below.alloc, Below.refl]
    · go_enter Tryd.func31, Tryd.ntmps31
      go_wp2_with (first | (go_at_call_of 54 (Value.int .i64 a); refine (in_is h1 (l01In_any _ _ _ _)).mono ?_; rintro e w' ⟨rfl, rfl⟩))
      go_ret
      simp [actB, h1, h2, Below.alloc, Below.refl]
set_option maxHeartbeats 2000000 in
set_option maxRecDepth 100000 in
theorem spec_act3 (a b c : Int) (w : World) : Calls Tryd.prog 31 #[.agg #[.int .i64 3, .int .i64 a, .int .i64 b, .int .i64 c]] w fun e w' => e = .returned (.bool (actB 3 a b c)) ∧ Below w.heap.size w w' := by
  have hu := Tryd.underlying26
  cases h1 : inB a 0 3
  · go_enter Tryd.func31, Tryd.ntmps31
    go_wp2_with (first | (go_at_call_of 54 (Value.int .i64 a); refine (in_is h1 (l01In_any _ _ _ _)).mono ?_; rintro e w' ⟨rfl, rfl⟩))
    go_ret
    simp [actB, h1, Below.alloc, Below.refl]
  · cases h2 : inB b 0 39
    · go_enter Tryd.func31, Tryd.ntmps31
      go_wp2_with (first | (go_at_call_of 54 (Value.int .i64 a); refine (in_is h1 (l01In_any _ _ _ _)).mono ?_; rintro e w' ⟨rfl, rfl⟩) | (go_at_call_of 54 (Value.int .i64 b); refine (in_is h2 (l01In_any _ _ _ _)).mono ?_; rintro e w' ⟨rfl, rfl⟩))
      go_ret
      simp [actB, h1, h2, Below.alloc, Below.refl]
    · cases h3 : inB c 0 2
      · go_enter Tryd.func31, Tryd.ntmps31
        go_wp2_with (first | (go_at_call_of 54 (Value.int .i64 a); refine (in_is h1 (l01In_any _ _ _ _)).mono ?_; rintro e w' ⟨rfl, rfl⟩) | (go_at_call_of 54 (Value.int .i64 b); refine (in_is h2 (l01In_any _ _ _ _)).mono ?_; rintro e w' ⟨rfl, rfl⟩) | (go_at_call_of 54 (Value.int .i64 c); refine (in_is h3 (l01In_any _ _ _ _)).mono ?_; rintro e w' ⟨rfl, rfl⟩))
        go_ret
        simp [actB, h1, h2, h3, Below.alloc, Below.refl]
      · go_enter Tryd.func31, Tryd.ntmps31
        go_wp2_with (first | (go_at_call_of 54 (Value.int .i64 a); refine (in_is h1 (l01In_any _ _ _ _)).mono ?_; rintro e w' ⟨rfl, rfl⟩) | (go_at_call_of 54 (Value.int .i64 b); refine (in_is h2 (l01In_any _ _ _ _)).mono ?_; rintro e w' ⟨rfl, rfl⟩) | (go_at_call_of 54 (Value.int .i64 c); refine (in_is h3 (l01In_any _ _ _ _)).mono ?_; rintro e w' ⟨rfl, rfl⟩))
        go_ret
        simp [actB, h1, h2, h3, Below.alloc, Below.refl]
set_option maxHeartbeats 2000000 in
set_option maxRecDepth 100000 in
theorem spec_act4 (a b c : Int) (w : World) : Calls Tryd.prog 31 #[.agg #[.int .i64 4, .int .i64 a, .int .i64 b, .int .i64 c]] w fun e w' => e = .returned (.bool (actB 4 a b c)) ∧ Below w.heap.size w w' := by
  have hu := Tryd.underlying26
  cases h1 : inB a 0 11
  · go_enter Tryd.func31, Tryd.ntmps31
    go_wp2_with (first | (go_at_call_of 54 (Value.int .i64 a); refine (in_is h1 (l01In_any _ _ _ _)).mono ?_; rintro e w' ⟨rfl, rfl⟩))
    go_ret
    simp [actB, h1, Below.alloc, Below.refl]
  · cases h2 : inB b (-100000) 100000
    · go_enter Tryd.func31, Tryd.ntmps31
      go_wp2_with (first | (go_at_call_of 54 (Value.int .i64 a); refine (in_is h1 (l01In_any _ _ _ _)).mono ?_; rintro e w' ⟨rfl, rfl⟩) | (go_at_call_of 54 (Value.int .i64 b); refine (in_is h2 (l01In_any _ _ _ _)).mono ?_; rintro e w' ⟨rfl, rfl⟩))
      go_ret
      simp [actB, h1, h2, Below.alloc, Below.refl]
    · by_cases h3 : c = 0
      · go_enter Tryd.func31, Tryd.ntmps31
        go_wp2_with (first | (go_at_call_of 54 (Value.int .i64 a); refine (in_is h1 (l01In_any _ _ _ _)).mono ?_; rintro e w' ⟨rfl, rfl⟩) | (go_at_call_of 54 (Value.int .i64 b); refine (in_is h2 (l01In_any _ _ _ _)).mono ?_; rintro e w' ⟨rfl, rfl⟩))
        go_ret
        simp [actB, h1, h2, h3, Below.alloc, Below.refl]
      · go_enter Tryd.func31, Tryd.ntmps31
        go_wp2_with (first | (go_at_call_of 54 (Value.int .i64 a); refine (in_is h1 (l01In_any _ _ _ _)).mono ?_; rintro e w' ⟨rfl, rfl⟩) | (go_at_call_of 54 (Value.int .i64 b); refine (in_is h2 (l01In_any _ _ _ _)).mono ?_; rintro e w' ⟨rfl, rfl⟩))
        go_ret
        simp [actB, h1, h2, h3, Below.alloc, Below.refl]
set_option maxHeartbeats 2000000 in
set_option maxRecDepth 100000 in
theorem spec_act7 (a b c : Int) (w : World) : Calls Tryd.prog 31 #[.agg #[.int .i64 7, .int .i64 a, .int .i64 b, .int .i64 c]] w fun e w' => e = .returned (.bool (actB 7 a b c)) ∧ Below w.heap.size w w' := by
  have hu := Tryd.underlying26
  cases h1 : inB a 0 11
  · go_enter Tryd.func31, Tryd.ntmps31
    go_wp2_with (first | (go_at_call_of 54 (Value.int .i64 a); refine (in_is h1 (l01In_any _ _ _ _)).mono ?_; rintro e w' ⟨rfl, rfl⟩))
    go_ret
    simp [actB, h1, Below.alloc, Below.refl]
  · by_cases h2 : b = 0
    · by_cases h3 : c = 0
      · go_enter Tryd.func31, Tryd.ntmps31
        go_wp2_with (first | (go_at_call_of 54 (Value.int .i64 a); refine (in_is h1 (l01In_any _ _ _ _)).mono ?_; rintro e w' ⟨rfl, rfl⟩))
        go_ret
        simp [actB, h1, h2, h3, Below.alloc, Below.refl]
      · go_enter Tryd.func31, Tryd.ntmps31
        go_wp2_with (first | (go_at_call_of 54 (Value.int .i64 a); refine (in_is h1 (l01In_any _ _ _ _)).mono ?_; rintro e w' ⟨rfl, rfl⟩))
        go_ret
        simp [actB, h1, h2, h3, Below.alloc, Below.refl]
    · go_enter Tryd.func31, Tryd.ntmps31
      go_wp2_with (first | (go_at_call_of 54 (Value.int .i64 a); refine (in_is h1 (l01In_any _ _ _ _)).mono ?_; rintro e w' ⟨rfl, rfl⟩))
      go_ret
      simp [actB, h1, h2, Below.alloc, Below.refl]
set_option maxRecDepth 100000 in
theorem spec_ActOk_any (k a b c : Int) (w : World) : Calls Tryd.prog 31 #[.agg #[.int .i64 k, .int .i64 a, .int .i64 b, .int .i64 c]] w fun e w' => e = .returned (.bool (actB k a b c)) ∧ Below w.heap.size w w' := by
  rcases kinds k with rfl | rfl | rfl | rfl | rfl | rfl | rfl | ⟨n1, n5, n6, n2, n3, n4, n7⟩
  · exact spec_act1 a b c w
  · exact spec_act5 a b c w
  · exact spec_act6 a b c w
  · exact spec_act2 a b c w
  · exact spec_act3 a b c w
  · exact spec_act4 a b c w
  · exact spec_act7 a b c w
  · go_enter Tryd.func31, Tryd.ntmps31
    go_wp2
    go_ret
    simp [actB_0 n1 n5 n6 n2 n3 n4 n7, Below.alloc, Below.refl]
set_option maxHeartbeats 2000000 in
set_option maxRecDepth 100000 in
theorem impl_act1 (a b c : Int) (w : World) : Calls Tryd.prog 33 #[.agg #[.int .i64 1, .int .i64 a, .int .i64 b, .int .i64 c]] w fun e w' => e = .returned (.bool (actB 1 a b c)) ∧ Below w.heap.size w w' := by
  have hu := Tryd.underlying26
  by_cases h1 : a = 0
  · by_cases h2 : b = 0
    · by_cases h3 : c = 0
      · go_enter Tryd.func33, Tryd.ntmps33
        go_wp2_with (fail)
        go_ret
        simp [actB, h1, h2, h3, Below.alloc, Below.refl]
      · go_enter Tryd.func33, Tryd.ntmps33
        go_wp2_with (fail)
        go_ret
        simp [actB, h1, h2, h3, Below.alloc, Below.refl]
    · go_enter Tryd.func33, Tryd.ntmps33
      go_wp2_with (fail)
      go_ret
      simp [actB, h1, h2, Below.alloc, Below.refl]
  · go_enter Tryd.func33, Tryd.ntmps33
    go_wp2_with (fail)
    go_ret
    simp [actB, h1, Below.alloc, Below.refl]
set_option maxHeartbeats 2000000 in
set_option maxRecDepth 100000 in
theorem impl_act5 (a b c : Int) (w : World) : Calls Tryd.prog 33 #[.agg #[.int .i64 5, .int .i64 a, .int .i64 b, .int .i64 c]] w fun e w' => e = .returned (.bool (actB 5 a b c)) ∧ Below w.heap.size w w' := by
  have hu := Tryd.underlying26
  by_cases h1 : a = 0
  · by_cases h2 : b = 0
    · by_cases h3 : c = 0
      · go_enter Tryd.func33, Tryd.ntmps33
        go_wp2_with (fail)
        go_ret
        simp [actB, h1, h2, h3, Below.alloc, Below.refl]
      · go_enter Tryd.func33, Tryd.ntmps33
        go_wp2_with (fail)
        go_ret
        simp [actB, h1, h2, h3, Below.alloc, Below.refl]
    · go_enter Tryd.func33, Tryd.ntmps33
      go_wp2_with (fail)
      go_ret
      simp [actB, h1, h2, Below.alloc, Below.refl]
  · go_enter Tryd.func33, Tryd.ntmps33
    go_wp2_with (fail)
    go_ret
    simp [actB, h1, Below.alloc, Below.refl]
set_option maxHeartbeats 2000000 in
set_option maxRecDepth 100000 in
theorem impl_act6 (a b c : Int) (w : World) : Calls Tryd.prog 33 #[.agg #[.int .i64 6, .int .i64 a, .int .i64 b, .int .i64 c]] w fun e w' => e = .returned (.bool (actB 6 a b c)) ∧ Below w.heap.size w w' := by
  have hu := Tryd.underlying26
  by_cases h1 : a = 0
  · by_cases h2 : b = 0
    · by_cases h3 : c = 0
      · go_enter Tryd.func33, Tryd.ntmps33
        go_wp2_with (fail)
        go_ret
        simp [actB, h1, h2, h3, Below.alloc, Below.refl]
      · go_enter Tryd.func33, Tryd.ntmps33
        go_wp2_with (fail)
        go_ret
        simp [actB, h1, h2, h3, Below.alloc, Below.refl]
    · go_enter Tryd.func33, Tryd.ntmps33
      go_wp2_with (fail)
      go_ret
      simp [actB, h1, h2, Below.alloc, Below.refl]
  · go_enter Tryd.func33, Tryd.ntmps33
    go_wp2_with (fail)
    go_ret
    simp [actB, h1, Below.alloc, Below.refl]
set_option maxHeartbeats 2000000 in
set_option maxRecDepth 100000 in
theorem impl_act2 (a b c : Int) (w : World) : Calls Tryd.prog 33 #[.agg #[.int .i64 2, .int .i64 a, .int .i64 b, .int .i64 c]] w fun e w' => e = .returned (.bool (actB 2 a b c)) ∧ Below w.heap.size w w' := by
  have hu := Tryd.underlying26
  by_cases h2 : b = 0
  · by_cases h3 : c = 0
    · cases h1 : inB a (-10) 40
      · go_enter Tryd.func33, Tryd.ntmps33
        go_wp2_with (first | (go_at_call 60; refine (wm_is h1 _).mono ?_; rintro e w' ⟨rfl, rfl⟩))
        go_ret
        simp [actB, h2, h3, h1, Below.alloc, Below.refl]
      · go_enter Tryd.func33, Tryd.ntmps33
        go_wp2_with (first | (go_at_call 60; refine (wm_is h1 _).mono ?_; rintro e w' ⟨rfl, rfl⟩))
        go_ret
        simp [actB, h2, h3, h1, Below.alloc, Below.refl]
    · go_enter Tryd.func33, Tryd.ntmps33
      go_wp2_with (fail)
      go_ret
      simp [actB, h2, h3, Below.alloc, Below.refl]
  · go_enter Tryd.func33, Tryd.ntmps33
    go_wp2_with (fail)
    go_ret
    simp [actB, h2, Below.alloc, Below.refl]
set_option maxHeartbeats 2000000 in
set_option maxRecDepth 100000 in
theorem impl_act3 (a b c : Int) (w : World) : Calls Tryd.prog 33 #[.agg #[.int .i64 3, .int .i64 a, .int .i64 b, .int .i64 c]] w fun e w' => e = .returned (.bool (actB 3 a b c)) ∧ Below w.heap.size w w' := by
  have hu := Tryd.underlying26
  cases h1 : inB a 0 3
  · go_enter Tryd.func33, Tryd.ntmps33
    go_wp2_with (first | (go_at_call_of 61 (Value.int .i64 a); refine (in_is h1 (within_any _ _ _ _)).mono ?_; rintro e w' ⟨rfl, rfl⟩))
    go_ret
    simp [actB, h1, Below.alloc, Below.refl]
  · cases h2 : inB b 0 39
    · go_enter Tryd.func33, Tryd.ntmps33
      go_wp2_with (first | (go_at_call_of 61 (Value.int .i64 a); refine (in_is h1 (within_any _ _ _ _)).mono ?_; rintro e w' ⟨rfl, rfl⟩) | (go_at_call_of 61 (Value.int .i64 b); refine (in_is h2 (within_any _ _ _ _)).mono ?_; rintro e w' ⟨rfl, rfl⟩))
      go_ret
      simp [actB, h1, h2, Below.alloc, Below.refl]
    · cases h3 : inB c 0 2
      · go_enter Tryd.func33, Tryd.ntmps33
        go_wp2_with (first | (go_at_call_of 61 (Value.int .i64 a); refine (in_is h1 (within_any _ _ _ _)).mono ?_; rintro e w' ⟨rfl, rfl⟩) | (go_at_call_of 61 (Value.int .i64 b); refine (in_is h2 (within_any _ _ _ _)).mono ?_; rintro e w' ⟨rfl, rfl⟩) | (go_at_call_of 61 (Value.int .i64 c); refine (in_is h3 (within_any _ _ _ _)).mono ?_; rintro e w' ⟨rfl, rfl⟩))
        go_ret
        simp [actB, h1, h2, h3, Below.alloc, Below.refl]
      · go_enter Tryd.func33, Tryd.ntmps33
        go_wp2_with (first | (go_at_call_of 61 (Value.int .i64 a); refine (in_is h1 (within_any _ _ _ _)).mono ?_; rintro e w' ⟨rfl, rfl⟩) | (go_at_call_of 61 (Value.int .i64 b); refine (in_is h2 (within_any _ _ _ _)).mono ?_; rintro e w' ⟨rfl, rfl⟩) | (go_at_call_of 61 (Value.int .i64 c); refine (in_is h3 (within_any _ _ _ _)).mono ?_; rintro e w' ⟨rfl, rfl⟩))
        go_ret
        simp [actB, h1, h2, h3, Below.alloc, Below.refl]
set_option maxHeartbeats 2000000 in
set_option maxRecDepth 100000 in
theorem impl_act4 (a b c : Int) (w : World) : Calls Tryd.prog 33 #[.agg #[.int .i64 4, .int .i64 a, .int .i64 b, .int .i64 c]] w fun e w' => e = .returned (.bool (actB 4 a b c)) ∧ Below w.heap.size w w' := by
  have hu := Tryd.underlying26
  by_cases h3 : c = 0
  · cases h1 : inB a 0 11
    · go_enter Tryd.func33, Tryd.ntmps33
      go_wp2_with (first | (go_at_call_of 61 (Value.int .i64 a); refine (in_is h1 (within_any _ _ _ _)).mono ?_; rintro e w' ⟨rfl, rfl⟩))
      go_ret
      simp [actB, h3, h1, Below.alloc, Below.refl]
    · cases h2 : inB b (-100000) 100000
      · go_enter Tryd.func33, Tryd.ntmps33
        go_wp2_with (first | (go_at_call_of 61 (Value.int .i64 a); refine (in_is h1 (within_any _ _ _ _)).mono ?_; rintro e w' ⟨rfl, rfl⟩) | (go_at_call_of 61 (Value.int .i64 b); refine (in_is h2 (within_any _ _ _ _)).mono ?_; rintro e w' ⟨rfl, rfl⟩))
        go_ret
        simp [actB, h3, h1, h2, Below.alloc, Below.refl]
      · go_enter Tryd.func33, Tryd.ntmps33
        go_wp2_with (first | (go_at_call_of 61 (Value.int .i64 a); refine (in_is h1 (within_any _ _ _ _)).mono ?_; rintro e w' ⟨rfl, rfl⟩) | (go_at_call_of 61 (Value.int .i64 b); refine (in_is h2 (within_any _ _ _ _)).mono ?_; rintro e w' ⟨rfl, rfl⟩))
        go_ret
        simp [actB, h3, h1, h2, Below.alloc, Below.refl]
  · go_enter Tryd.func33, Tryd.ntmps33
    go_wp2_with (fail)
    go_ret
    simp [actB, h3, Below.alloc, Below.refl]
set_option maxHeartbeats 2000000 in
set_option maxRecDepth 100000 in
theorem impl_act7 (a b c : Int) (w : World) : Calls Tryd.prog 33 #[.agg #[.int .i64 7, .int .i64 a, .int .i64 b, .int .i64 c]] w fun e w' => e = .returned (.bool (actB 7 a b c)) ∧ Below w.heap.size w w' := by
  have hu := Tryd.underlying26
  by_cases h2 : b = 0
  · by_cases h3 : c = 0
    · cases h1 : inB a 0 11
      · go_enter Tryd.func33, Tryd.ntmps33
        go_wp2_with (first | (go_at_call_of 61 (Value.int .i64 a); refine (in_is h1 (within_any _ _ _ _)).mono ?_; rintro e w' ⟨rfl, rfl⟩))
        go_ret
        simp [actB, h2, h3, h1, Below.alloc, Below.refl]
      · go_enter Tryd.func33, Tryd.ntmps33
        go_wp2_with (first | (go_at_call_of 61 (Value.int .i64 a); refine (in_is h1 (within_any _ _ _ _)).mono ?_; rintro e w' ⟨rfl, rfl⟩))
        go_ret
        simp [actB, h2, h3, h1, Below.alloc, Below.refl]
    · go_enter Tryd.func33, Tryd.ntmps33
      go_wp2_with (fail)
      go_ret
      simp [actB, h2, h3, Below.alloc, Below.refl]
  · go_enter Tryd.func33, Tryd.ntmps33
    go_wp2_with (fail)
    go_ret
    simp [actB, h2, Below.alloc, Below.refl]
set_option maxRecDepth 100000 in
theorem impl_ActOk_any (k a b c : Int) (w : World) : Calls Tryd.prog 33 #[.agg #[.int .i64 k, .int .i64 a, .int .i64 b, .int .i64 c]] w fun e w' => e = .returned (.bool (actB k a b c)) ∧ Below w.heap.size w w' := by
  rcases kinds k with rfl | rfl | rfl | rfl | rfl | rfl | rfl | ⟨n1, n5, n6, n2, n3, n4, n7⟩
  · exact impl_act1 a b c w
  · exact impl_act5 a b c w
  · exact impl_act6 a b c w
  · exact impl_act2 a b c w
  · exact impl_act3 a b c w
  · exact impl_act4 a b c w
  · exact impl_act7 a b c w
  · go_enter Tryd.func33, Tryd.ntmps33
    go_wp2
    go_ret
    simp [actB_0 n1 n5 n6 n2 n3 n4 n7, Below.alloc, Below.refl]

end Go.Proofs.YtpbhoembdoofiaaDoor.T
