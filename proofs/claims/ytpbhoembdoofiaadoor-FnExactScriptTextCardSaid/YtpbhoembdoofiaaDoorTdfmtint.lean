/- spec.FormatInt comes to the same numeral as strconv.Itoa. Conditions: none but those that each statement names. -/
import Derived.Lib.ConvBytes
import Derived.WalkSpells
import Derived.Laws.IdiomStrings
import Derived.Test.YtpbhoembdoofiaaDoorTbwords
namespace Go.Proofs.YtpbhoembdoofiaaDoor.T
open Go.RowKit
set_option linter.unusedVariables false
set_option linter.unusedSimpArgs false
theorem fig_any (d : Int) (h0 : 0 ≤ d) (h1 : d < 10) (w : World) : Calls Tryd.prog 59 #[.int .i64 d] w fun e w' => e = .returned (.int .u8 (48 + d)) ∧ w = w' := by
  have e : IntKind.u8.wrap (48 + d) = 48 + d := by simp [IntKind.wrap, IntKind.signed, IntKind.bits]; omega
  go_enter Tryd.func59, Tryd.ntmps59
  go_wp2
  go_ret
  simp [e]
theorem conv_fig (w : World) (u : Nat) : (convert 36 9 (.slice (some ⟨w.heap.size, 0, none⟩) 1 1)).run Tryd.prog (w.alloc (.cells #[.int .u8 (48 + (u : Int) % 10)] 5 (0, 0))) = .ok (.string ⟨#[UInt8.ofNat (48 + u % 10)]⟩) (w.alloc (.cells #[.int .u8 (48 + (u : Int) % 10)] 5 (0, 0))) := by
  refine run_convert_bytes_back _ 36 9 5 ⟨w.heap.size, 0, none⟩ 1 [UInt8.ofNat (48 + u % 10)] Tryd.underlying36 Tryd.underlying5 Tryd.underlying9 ?_
  intro k hk
  obtain rfl : k = 0 := by simpa using hk
  have e : (UInt8.ofNat (48 + u % 10)).toNat = 48 + u % 10 := by simp; omega
  simp only [List.getElem_cons_zero, e]
  simp [Addr.add, World.cell?_alloc_new]
theorem app_str (l s : List UInt8) : Value.string ((⟨l.toArray⟩ : ByteArray) ++ ⟨s.toArray⟩) = .string ⟨(l ++ s).toArray⟩ := by
  congr 1
theorem cons_str (c : UInt8) (s : List UInt8) : Value.string ((⟨#[c]⟩ : ByteArray) ++ ⟨s.toArray⟩) = .string ⟨(c :: s).toArray⟩ := app_str [c] s
def digT (u : Nat) (s : List UInt8) : List UInt8 := if u = 0 then s else Lib.decDigits u ++ s
theorem digT_step (u : Nat) (s : List UInt8) (h : 0 < u) : digT (u / 10) (UInt8.ofNat (48 + u % 10) :: s) = digT u s := by
  unfold digT
  rw [if_neg (show ¬ u = 0 by omega)]
  by_cases h1 : u < 10
  · rw [if_pos (by omega), Lib.decDigits_one h1, Nat.mod_eq_of_lt h1]
    rfl
  · rw [if_neg (by omega)]
    conv => rhs; rw [Lib.decDigits, dif_neg h1]
    simp
set_option maxHeartbeats 1000000 in
set_option maxRecDepth 100000 in
theorem spec_FormatInt_pos (m : Nat) (h0 : 0 < m) (h1 : m ≤ 1000000000) (w : World) : Calls Tryd.prog 32 #[.int .i64 m] w fun e w' => e = .returned (.string ⟨(Lib.itoa m).toArray⟩) ∧ Below w.heap.size w w' := by
  have hm : decide ((m : Int) < 0) = false := decide_eq_false (by omega)
  have hm0 : ((m : Int) == 0) = false := beq_false_of_ne (by omega)
  go_enter Tryd.func32, Tryd.ntmps32
  go_wp2
  go_loopw [0, 4] (fun v t wr => ∃ (u : Nat) (s : List UInt8), u ≤ 1000000000 ∧ v = .int .i64 u ∧ t = .string ⟨s.toArray⟩ ∧ Hid (digT u s = Lib.decDigits m) ∧ Hid (Below w.heap.size w wr)) (fun v _ _ => (intOf v).toNat)
  case atStart => exact ⟨m, [], h1, rfl, rfl, Lib.hid (by unfold digT; rw [if_neg (by omega), List.append_nil]), Lib.hid (Below.refl _ _)⟩
  case round =>
    obtain ⟨u, s, hu, rfl, rfl, HD, HB⟩ := hrel
    by_cases hp : 0 < u
    · have hcv := conv_fig wr u
      have hs : s.length ≤ 21 := by
        have h2 : (digT u s).length = (Lib.itoa m).length := by rw [HD.out]; unfold Lib.itoa; rw [if_neg (by omega)]; rfl
        have h3 := Lib.itoa_length_le (m : Int) (by omega) (by omega)
        unfold digT at h2
        split at h2
        · omega
        · rw [List.length_append] at h2; omega
      have HS := Lib.hid (digT_step u s hp)
      go_wp2_with (first | (go_at_call 59; refine (fig_any _ (by omega) (by omega) _).mono ?_; rintro e w1 ⟨rfl, rfl⟩))
      go_roundw
      case rel => exact ⟨u / 10, UInt8.ofNat (48 + u % 10) :: s, by omega, by go_num, by rw [show UInt8.ofNat (48 + u % 10) = 48 + UInt8.ofNat (u % 10) by simp]; exact cons_str _ _, Lib.hid (by rw [HS.out]; exact HD.out), Lib.hid (HB.out.alloc HB.out.size _)⟩
      case measure => simp [intOf]; omega
    · obtain rfl : u = 0 := by omega
      have HE : Hid (s = Lib.decDigits m) := Lib.hid (by have := HD.out; unfold digT at this; rw [if_pos rfl] at this; exact this)
      go_wp2
      go_ret
      refine ⟨?_, HB.out⟩
      rw [HE.out]
      unfold Lib.itoa
      rw [if_neg (by omega)]
      rfl
theorem tmod_neg (u : Nat) : Int.tmod (-(u : Int)) 10 = -((u % 10 : Nat) : Int) := by rw [Int.neg_tmod]; rfl
theorem tdiv_neg (u : Nat) : Int.tdiv (-(u : Int)) 10 = -((u / 10 : Nat) : Int) := by rw [Int.neg_tdiv]; rfl
set_option maxHeartbeats 1000000 in
set_option maxRecDepth 100000 in
theorem spec_FormatInt_neg (m : Nat) (h0 : 0 < m) (h1 : m ≤ 1000000000) (w : World) : Calls Tryd.prog 32 #[.int .i64 (-(m : Int))] w fun e w' => e = .returned (.string ⟨(Lib.itoa (-(m : Int))).toArray⟩) ∧ Below w.heap.size w w' := by
  have hm : decide (-(m : Int) < 0) = true := decide_eq_true (by omega)
  have hm0 : (-(m : Int) == 0) = false := beq_false_of_ne (by omega)
  go_enter Tryd.func32, Tryd.ntmps32
  go_wp2
  go_loopw [0, 4] (fun v t wr => ∃ (u : Nat) (s : List UInt8), u ≤ 1000000000 ∧ v = .int .i64 (-(u : Int)) ∧ t = .string ⟨s.toArray⟩ ∧ Hid (digT u s = Lib.decDigits m) ∧ Hid (Below w.heap.size w wr)) (fun v _ _ => (-(intOf v)).toNat)
  case atStart => exact ⟨m, [], h1, rfl, rfl, Lib.hid (by unfold digT; rw [if_neg (by omega), List.append_nil]), Lib.hid (Below.refl _ _)⟩
  case round =>
    obtain ⟨u, s, hu, rfl, rfl, HD, HB⟩ := hrel
    by_cases hp : 0 < u
    · have hcv := conv_fig wr u
      have hs : s.length ≤ 21 := by
        have h2 : (digT u s).length = (Lib.itoa m).length := by rw [HD.out]; unfold Lib.itoa; rw [if_neg (by omega)]; rfl
        have h3 := Lib.itoa_length_le (m : Int) (by omega) (by omega)
        unfold digT at h2
        split at h2
        · omega
        · rw [List.length_append] at h2; omega
      have HS := Lib.hid (digT_step u s hp)
      have e1 := tmod_neg u
      have e2 := tdiv_neg u
      have hn0 : (-(u : Int) != 0) = true := by simp; omega
      by_cases hz : 0 < (u : Int) % 10
      · have hd : decide (0 < (u : Int) % 10) = true := decide_eq_true hz
        have l0 : 0 ≤ (u : Int) % 10 := by omega
        have l1 : (u : Int) % 10 < 10 := by omega
        go_wp2_with (first | (go_at_call 59; (with_reducible refine (fig_any ((u : Int) % 10) l0 l1 _).mono ?_); rintro e w1 ⟨rfl, rfl⟩))
        go_roundw
        case rel => exact ⟨u / 10, UInt8.ofNat (48 + u % 10) :: s, by omega, by go_num, by rw [show UInt8.ofNat (48 + u % 10) = 48 + UInt8.ofNat (u % 10) by simp]; exact cons_str _ _, Lib.hid (by rw [HS.out]; exact HD.out), Lib.hid (HB.out.alloc HB.out.size _)⟩
        case measure => simp [intOf]; omega
      · have hz2 : (u : Int) % 10 = 0 := by omega
        have hz3 : u % 10 = 0 := by omega
        rw [hz2, hz3, Int.add_zero, Nat.add_zero] at hcv
        have HZ := Lib.hid hz3
        clear hz hz3
        go_wp2_with (first | (go_at_call 59; (with_reducible refine (fig_any 0 (by decide) (by decide) _).mono ?_); rintro e w1 ⟨rfl, rfl⟩))
        go_roundw
        case rel => exact ⟨u / 10, UInt8.ofNat (48 + u % 10) :: s, by omega, by go_num, by rw [HZ.out]; exact cons_str _ _, Lib.hid (by rw [HS.out]; exact HD.out), Lib.hid (HB.out.alloc HB.out.size _)⟩
        case measure => simp [intOf]; omega
    · obtain rfl : u = 0 := by omega
      have HE : Hid (s = Lib.decDigits m) := Lib.hid (by have := HD.out; unfold digT at this; rw [if_pos rfl] at this; exact this)
      have hs : s.length ≤ 21 := by
        rw [HE.out]
        have h3 := Lib.itoa_length_le (m : Int) (by omega) (by omega)
        unfold Lib.itoa at h3
        rw [if_neg (by omega)] at h3
        exact h3
      go_wp2
      go_ret
      refine ⟨?_, HB.out⟩
      rw [HE.out]
      unfold Lib.itoa
      rw [if_pos (by omega), show (-(m : Int)).natAbs = m by omega]
      exact congrArg _ (cons_str 45 _)
theorem spec_FormatInt_any (n : Int) (h0 : -1000000000 ≤ n) (h1 : n ≤ 1000000000) (w : World) : Calls Tryd.prog 32 #[.int .i64 n] w fun e w' => e = .returned (.string ⟨(Lib.itoa n).toArray⟩) ∧ Below w.heap.size w w' := by
  rcases Int.lt_trichotomy n 0 with h | rfl | h
  · obtain ⟨m, rfl⟩ : ∃ m : Nat, n = -(m : Int) := ⟨n.natAbs, by omega⟩
    exact spec_FormatInt_neg m (by omega) (by omega) w
  · go_enter Tryd.func32, Tryd.ntmps32
    go_wp2
    go_ret
    exact ⟨by simp [Lib.itoa, Lib.decDigits], Below.refl _ _⟩
  · obtain ⟨m, rfl⟩ : ∃ m : Nat, n = (m : Int) := ⟨n.toNat, by omega⟩
    exact spec_FormatInt_pos m (by omega) (by omega) w

end Go.Proofs.YtpbhoembdoofiaaDoor.T
