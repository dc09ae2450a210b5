/- The law FnExactScriptText returns true. Conditions: none but those that each statement names. -/
import Derived.Test.YtpbhoembdoofiaaDoorTgrows
import Derived.Test.YtpbhoembdoofiaaDoorTtsscript
import Derived.Test.YtpbhoembdoofiaaDoorTstoacts
namespace Go.Proofs.YtpbhoembdoofiaaDoor.T
open Go.RowKit
set_option linter.unusedVariables false
set_option linter.unusedSimpArgs false
set_option maxHeartbeats 2000000 in
set_option maxRecDepth 100000 in
theorem slaw_any (v : Value) (xs : List Ac) (w : World) (hr : RowS w v xs) (hT : Tab w) : Calls Tryd.prog 4 #[v] w fun e w' => e = .returned (.bool true) ∧ Below w.heap.size w w' := by
  have HR := Sd.mk hr
  have HT := Sd.mk hT
  clear hr hT
  by_cases hn : xs.length ≤ 1048576
  · have HN := Sd.mk hn
    have d0 : decide ((1048576 : Int) - (xs.length : Int) < 0) = false := decide_eq_false (by omega)
    clear hn
    go_enter Tryd.func4, Tryd.ntmps4
    go_upto_region 6 with (first
      | (go_at_call 11; refine (szActS_any _ xs _ _ HR.out rfl).mono ?_; rintro _ _ ⟨rfl, rfl⟩; rw [if_pos HN.out])
      | (go_at_call 13; refine (toActS_any _ xs _ HR.out HN.out).mono ?_; rintro _ w1 ⟨u1, rfl, hr1, hb1⟩; have HR1 := Sd.mk hr1; have HB1 := sS (s0 w) hb1; clear hr1 hb1)
      | (go_at_call 12; refine (spec_ScriptText_any _ xs _ HR1.out).mono ?_; rintro _ w2 ⟨rfl, hb2⟩; have HB2 := sS HB1 hb2; clear hb2))
    go_upto_region 10 with (first
      | (go_at_call 13; refine (toActS_any _ xs _ (HR.out.below HB2.out) HN.out).mono ?_; rintro _ w3 ⟨u3, rfl, hr3, hb3⟩; have HR3 := Sd.mk hr3; have HB3 := sS HB2 hb3; have HT3 := Sd.mk (HT.out.below HB3.out); clear hr3 hb3)
      | (go_at_call 14; refine (impl_ScriptText_any _ xs _ HR3.out HT3.out).mono ?_; rintro _ w4 ⟨rfl, hb4⟩; have HB4 := sS HB3 hb4; have HR4 := Sd.mk (HR3.out.below hb4); clear hb4))
    go_wp2_with (first
      | (go_at_call 13; refine (toActS_any _ xs _ (HR.out.below HB4.out) HN.out).mono ?_; rintro _ w5 ⟨u5, rfl, hr5, hb5⟩; have HR5 := Sd.mk hr5; have HB5 := sS HB4 hb5; have HR6 := Sd.mk (HR4.out.below hb5); clear hr5 hb5)
      | (go_at_call 15; refine (eqActS_any _ _ xs _ HR6.out HR5.out).mono ?_; rintro _ w6 ⟨rfl, hb6⟩; have HB6 := sS HB5 hb6; clear hb6))
    go_ret
    exact ⟨rfl, HB6.out⟩
  · have HN := Sd.mk hn
    clear hn
    go_enter Tryd.func4, Tryd.ntmps4
    go_wp2_with (go_at_call 11; refine (szActS_any _ xs _ _ HR.out rfl).mono ?_; rintro _ _ ⟨rfl, rfl⟩; rw [if_neg HN.out])
    go_ret
    exact ⟨rfl, Below.refl _ _⟩

end Go.Proofs.YtpbhoembdoofiaaDoor.T
