/- Whether a number lies in a range. Conditions: none but those that each statement names. -/
import Derived.Test.YtpbhoembdoofiaaDoorTobase
namespace Go.Proofs.YtpbhoembdoofiaaDoor.T
open Go.RowKit
set_option linter.unusedVariables false
set_option linter.unusedSimpArgs false
theorem within_any (x a b : Int) (w : World) : Calls Tryd.prog 61 #[.int .i64 x, .int .i64 a, .int .i64 b] w fun e w' => e = .returned (.bool (inB x a b)) ∧ w = w' := by
  by_cases h : a ≤ x <;> by_cases h2 : x ≤ b
  all_goals
    go_enter Tryd.func61, Tryd.ntmps61
    go_wp2
    go_ret
    simp [inB, h, h2]
theorem l01In_any (x a b : Int) (w : World) : Calls Tryd.prog 54 #[.int .i64 x, .int .i64 a, .int .i64 b] w fun e w' => e = .returned (.bool (inB x a b)) ∧ w = w' := by
  by_cases h : a ≤ x <;> by_cases h2 : x ≤ b
  all_goals
    go_enter Tryd.func54, Tryd.ntmps54
    go_wp2
    go_ret
    simp [inB, h, h2]
theorem isWarmth_any (x : Int) (w : World) : Calls Tryd.prog 60 #[.int .i64 x] w fun e w' => e = .returned (.bool (inB x (-10) 40)) ∧ w = w' := by
  go_enter Tryd.func60, Tryd.ntmps60
  go_wp2_with (go_at_call 61; refine (within_any _ _ _ _).mono ?_; rintro e w' ⟨rfl, rfl⟩)
  go_ret
  simp
theorem wm_is {x : Int} {r : Bool} (h : inB x (-10) 40 = r) (w : World) : Calls Tryd.prog 60 #[.int .i64 x] w fun e w' => e = .returned (.bool r) ∧ w = w' := by have hc := isWarmth_any x w; rw [h] at hc; exact hc

end Go.Proofs.YtpbhoembdoofiaaDoor.T
