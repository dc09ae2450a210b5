/- spec.FormatAct comes to the same text as impl.FormatAct. Conditions: none but those that each statement names. -/
import Derived.Test.YtpbhoembdoofiaaDoorTcfmtact
import Derived.Test.YtpbhoembdoofiaaDoorTdfmtint
namespace Go.Proofs.YtpbhoembdoofiaaDoor.T
open Go.RowKit
set_option linter.unusedVariables false
set_option linter.unusedSimpArgs false
def addT (s : List UInt8) : List Int → List UInt8
  | [] => s
  | x :: r => addT (s ++ ([32] ++ Lib.itoa x)) r
theorem addT_snoc : ∀ (l : List Int) (s : List UInt8) (x : Int), addT s (l ++ [x]) = addT s l ++ ([32] ++ Lib.itoa x)
  | [], _, _ => rfl
  | y :: r, s, x => by rw [List.cons_append, addT, addT, addT_snoc r]
theorem addT_words : ∀ (l : List Int) (s : List UInt8), l ≠ [] → addT s l = s ++ [32] ++ wordsB l
  | [], _, h => absurd rfl h
  | [x], s, _ => by simp [addT, wordsB, Lib.join]
  | x :: y :: r, s, _ => by
    rw [addT, addT_words (y :: r) _ (by simp)]
    simp [wordsB, Lib.join, List.intercalate_cons_cons]
theorem addT_len : ∀ (l : List Int) (s : List UInt8), (∀ x ∈ l, -1000000000 ≤ x ∧ x ≤ 1000000000) → (addT s l).length ≤ s.length + 22 * l.length
  | [], _, _ => by simp [addT]
  | x :: r, s, h => by
    have h1 := Lib.itoa_length_le x (by have := h x (List.mem_cons_self ..); omega) (by have := h x (List.mem_cons_self ..); omega)
    have h2 := addT_len r (s ++ ([32] ++ Lib.itoa x)) (fun y hy => h y (List.mem_cons_of_mem _ hy))
    rw [addT]
    simp only [List.length_append, List.length_cons, List.length_nil] at h2 ⊢
    omega
theorem take_sn (xs : List Int) (k : Nat) (h : k < xs.length) (s : List UInt8) : addT s (xs.take (k + 1)) = addT s (xs.take k) ++ ([32] ++ Lib.itoa (xs.getD k 0)) := by
  rw [List.take_succ_eq_append_getElem h, addT_snoc, List.getD_eq_getElem?_getD, List.getElem?_eq_getElem h]
  rfl
theorem app3 (l s : List UInt8) : Value.string ((⟨l.toArray⟩ : ByteArray) ++ ⟨#[32]⟩ ++ ⟨s.toArray⟩) = .string ⟨(l ++ ([32] ++ s)).toArray⟩ := by
  have h1 : ((⟨l.toArray⟩ : ByteArray) ++ ⟨#[32]⟩) = ⟨(l ++ [32]).toArray⟩ := by
    have h := app_str l [32]
    injection h
  rw [h1, app_str]
  simp
theorem sact_is {k a b c : Int} {r : Bool} (h : actB k a b c = r) (w : World) : Calls Tryd.prog 31 #[.agg #[.int .i64 k, .int .i64 a, .int .i64 b, .int .i64 c]] w fun e w' => e = .returned (.bool r) ∧ Below w.heap.size w w' := by have hc := spec_ActOk_any k a b c w; rw [h] at hc; exact hc
set_option maxHeartbeats 1000000 in
set_option maxRecDepth 100000 in
theorem spec_fmt1 (a b c : Int) (h1 : actB 1 a b c = true) (w : World) : Calls Tryd.prog 8 #[.agg #[.int .i64 1, .int .i64 a, .int .i64 b, .int .i64 c]] w fun e w' => e = .returned (.tuple #[strV (fmtT 1 a b c), .bool true]) ∧ Below w.heap.size w w' := by
  have hu := Tryd.underlying26
  obtain ⟨_, a0, a1, b0, b1, c0, c1⟩ := actB_in h1
  go_enter Tryd.func8, Tryd.ntmps8
  go_wp2_with ((go_at_call 31; refine (sact_is h1 _).mono ?_; rintro e w1 ⟨rfl, hb⟩; obtain ⟨F1, G1⟩ := bcell hb; have L1 := lt_below hb; have HB1 := Lib.hid (((Below.refl _ _).alloc (Nat.le_refl w.heap.size) _).trans (hb.mono (by simp))); clear hb))
  refine wp_loop_rounds 1 ?_
  rw [rounds_succ]
  go_wp2
  go_ret2
  exact ⟨by simp [fmtT, h1, strV, actT], ((HB1.out.alloc HB1.out.size _).alloc (by have := HB1.out.size; simp; omega) _).alloc (by have := HB1.out.size; simp; omega) _⟩
set_option maxHeartbeats 1000000 in
set_option maxRecDepth 100000 in
theorem spec_fmt2 (a b c : Int) (h1 : actB 2 a b c = true) (w : World) : Calls Tryd.prog 8 #[.agg #[.int .i64 2, .int .i64 a, .int .i64 b, .int .i64 c]] w fun e w' => e = .returned (.tuple #[strV (fmtT 2 a b c), .bool true]) ∧ Below w.heap.size w w' := by
  have hu := Tryd.underlying26
  obtain ⟨_, a0, a1, b0, b1, c0, c1⟩ := actB_in h1
  have HX : Hid (∀ x ∈ ([a] : List Int), -1000000000 ≤ x ∧ x ≤ 1000000000) := Lib.hid (by simp; omega)
  go_enter Tryd.func8, Tryd.ntmps8
  go_wp2_with ((go_at_call 31; refine (sact_is h1 _).mono ?_; rintro e w1 ⟨rfl, hb⟩; obtain ⟨F1, G1⟩ := bcell hb; have L1 := lt_below hb; have HB1 := Lib.hid (((Below.refl _ _).alloc (Nat.le_refl w.heap.size) _).trans (hb.mono (by simp))); clear hb))
  go_loopw [4, 7] (fun s i wr => ∃ k : Nat, k ≤ 1 ∧ i = .int .i64 k ∧ s = .string ⟨(addT [119, 97, 114, 109] (([a] : List Int).take k)).toArray⟩ ∧ Hid (∀ j x, [a, b, c][j]? = some x → wr.cell? ⟨w1.heap.size + 1 + 1, j, none⟩ = some (.int .i64 x)) ∧ Hid (w1.heap.size + 1 + 1 < wr.heap.size) ∧ Hid (Below w.heap.size w wr)) (fun _ i _ => 1 - (intOf i).toNat)
  case atStart => exact ⟨0, by omega, rfl, rfl, Lib.hid (by intro j x hj; rcases j with _ | _ | _ | j <;> simp at hj <;> (try subst hj) <;> go_simp), Lib.hid (by simp), bW HB1⟩
  case round =>
    obtain ⟨k, hk, rfl, rfl, HC, HL, HB⟩ := hrel
    by_cases hlt : k < 1
    · have hl := take_sn ([a] : List Int) k hlt [119, 97, 114, 109]
      have hx := HX.out (([a] : List Int).getD k 0) (by rw [List.getD_eq_getElem?_getD, List.getElem?_eq_getElem (by exact hlt)]; exact List.getElem_mem _)
      have hc : ∀ x, x = ([a] : List Int).getD k 0 → wr.cell? ⟨w1.heap.size + 1 + 1, k, none⟩ = some (.int .i64 x) := fun x hx => HC.out k x (by subst hx; rcases k with _ | _ | _ | k <;> first | rfl | (simp at hlt; done) | omega)
      have hlen := addT_len (([a] : List Int).take k) [119, 97, 114, 109] (fun x hx => HX.out x (List.mem_of_mem_take hx))
      obtain ⟨x, HE⟩ : ∃ x, Hid (x = ([a] : List Int).getD k 0) := ⟨_, Lib.hid rfl⟩
      have hcell := hc x HE.out
      rw [← HE.out] at hx hl
      have HS := Lib.hid hl
      obtain ⟨hx0, hx1⟩ := hx
      have hlen2 : (addT [119, 97, 114, 109] (([a] : List Int).take k)).length ≤ 100 := by rw [List.length_take] at hlen; simp at hlen; omega
      have hi := Lib.itoa_length_le x (by omega) (by omega)
      clear hl hc hlen
      go_wp2_with (go_at_call 32; refine (spec_FormatInt_any x hx0 hx1 _).mono ?_; rintro e w2 ⟨rfl, hb⟩)
      go_roundw
      case rel => exact ⟨k + 1, by omega, by go_num, by rw [HS.out]; exact app3 _ _, Lib.hid (fun j y hj => by rw [hb.cell (p := ⟨_, j, none⟩) HL.out]; exact HC.out j y hj), Lib.hid (Nat.lt_of_lt_of_le HL.out hb.size), bS HB hb⟩
      case measure => simp [intOf]; omega
    · obtain rfl : k = 1 := by omega
      go_wp2
      go_ret2
      refine ⟨?_, HB.out⟩
      simp [fmtT, h1, strV, actT, addT_words]
set_option maxHeartbeats 1000000 in
set_option maxRecDepth 100000 in
theorem spec_fmt3 (a b c : Int) (h1 : actB 3 a b c = true) (w : World) : Calls Tryd.prog 8 #[.agg #[.int .i64 3, .int .i64 a, .int .i64 b, .int .i64 c]] w fun e w' => e = .returned (.tuple #[strV (fmtT 3 a b c), .bool true]) ∧ Below w.heap.size w w' := by
  have hu := Tryd.underlying26
  obtain ⟨_, a0, a1, b0, b1, c0, c1⟩ := actB_in h1
  have HX : Hid (∀ x ∈ ([a, b, c] : List Int), -1000000000 ≤ x ∧ x ≤ 1000000000) := Lib.hid (by simp; omega)
  go_enter Tryd.func8, Tryd.ntmps8
  go_wp2_with ((go_at_call 31; refine (sact_is h1 _).mono ?_; rintro e w1 ⟨rfl, hb⟩; obtain ⟨F1, G1⟩ := bcell hb; have L1 := lt_below hb; have HB1 := Lib.hid (((Below.refl _ _).alloc (Nat.le_refl w.heap.size) _).trans (hb.mono (by simp))); clear hb))
  go_loopw [4, 7] (fun s i wr => ∃ k : Nat, k ≤ 3 ∧ i = .int .i64 k ∧ s = .string ⟨(addT [102, 97, 117, 108, 116] (([a, b, c] : List Int).take k)).toArray⟩ ∧ Hid (∀ j x, [a, b, c][j]? = some x → wr.cell? ⟨w1.heap.size + 1 + 1, j, none⟩ = some (.int .i64 x)) ∧ Hid (w1.heap.size + 1 + 1 < wr.heap.size) ∧ Hid (Below w.heap.size w wr)) (fun _ i _ => 3 - (intOf i).toNat)
  case atStart => exact ⟨0, by omega, rfl, rfl, Lib.hid (by intro j x hj; rcases j with _ | _ | _ | j <;> simp at hj <;> (try subst hj) <;> go_simp), Lib.hid (by simp), bW HB1⟩
  case round =>
    obtain ⟨k, hk, rfl, rfl, HC, HL, HB⟩ := hrel
    by_cases hlt : k < 3
    · have hl := take_sn ([a, b, c] : List Int) k hlt [102, 97, 117, 108, 116]
      have hx := HX.out (([a, b, c] : List Int).getD k 0) (by rw [List.getD_eq_getElem?_getD, List.getElem?_eq_getElem (by exact hlt)]; exact List.getElem_mem _)
      have hc : ∀ x, x = ([a, b, c] : List Int).getD k 0 → wr.cell? ⟨w1.heap.size + 1 + 1, k, none⟩ = some (.int .i64 x) := fun x hx => HC.out k x (by subst hx; rcases k with _ | _ | _ | k <;> first | rfl | (simp at hlt; done) | omega)
      have hlen := addT_len (([a, b, c] : List Int).take k) [102, 97, 117, 108, 116] (fun x hx => HX.out x (List.mem_of_mem_take hx))
      obtain ⟨x, HE⟩ : ∃ x, Hid (x = ([a, b, c] : List Int).getD k 0) := ⟨_, Lib.hid rfl⟩
      have hcell := hc x HE.out
      rw [← HE.out] at hx hl
      have HS := Lib.hid hl
      obtain ⟨hx0, hx1⟩ := hx
      have hlen2 : (addT [102, 97, 117, 108, 116] (([a, b, c] : List Int).take k)).length ≤ 100 := by rw [List.length_take] at hlen; simp at hlen; omega
      have hi := Lib.itoa_length_le x (by omega) (by omega)
      clear hl hc hlen
      go_wp2_with (go_at_call 32; refine (spec_FormatInt_any x hx0 hx1 _).mono ?_; rintro e w2 ⟨rfl, hb⟩)
      go_roundw
      case rel => exact ⟨k + 1, by omega, by go_num, by rw [HS.out]; exact app3 _ _, Lib.hid (fun j y hj => by rw [hb.cell (p := ⟨_, j, none⟩) HL.out]; exact HC.out j y hj), Lib.hid (Nat.lt_of_lt_of_le HL.out hb.size), bS HB hb⟩
      case measure => simp [intOf]; omega
    · obtain rfl : k = 3 := by omega
      go_wp2
      go_ret2
      refine ⟨?_, HB.out⟩
      simp [fmtT, h1, strV, actT, addT_words]
set_option maxHeartbeats 1000000 in
set_option maxRecDepth 100000 in
theorem spec_fmt4 (a b c : Int) (h1 : actB 4 a b c = true) (w : World) : Calls Tryd.prog 8 #[.agg #[.int .i64 4, .int .i64 a, .int .i64 b, .int .i64 c]] w fun e w' => e = .returned (.tuple #[strV (fmtT 4 a b c), .bool true]) ∧ Below w.heap.size w w' := by
  have hu := Tryd.underlying26
  obtain ⟨_, a0, a1, b0, b1, c0, c1⟩ := actB_in h1
  have HX : Hid (∀ x ∈ ([a, b] : List Int), -1000000000 ≤ x ∧ x ≤ 1000000000) := Lib.hid (by simp; omega)
  go_enter Tryd.func8, Tryd.ntmps8
  go_wp2_with ((go_at_call 31; refine (sact_is h1 _).mono ?_; rintro e w1 ⟨rfl, hb⟩; obtain ⟨F1, G1⟩ := bcell hb; have L1 := lt_below hb; have HB1 := Lib.hid (((Below.refl _ _).alloc (Nat.le_refl w.heap.size) _).trans (hb.mono (by simp))); clear hb))
  go_loopw [4, 7] (fun s i wr => ∃ k : Nat, k ≤ 2 ∧ i = .int .i64 k ∧ s = .string ⟨(addT [107, 110, 111, 99, 107] (([a, b] : List Int).take k)).toArray⟩ ∧ Hid (∀ j x, [a, b, c][j]? = some x → wr.cell? ⟨w1.heap.size + 1 + 1, j, none⟩ = some (.int .i64 x)) ∧ Hid (w1.heap.size + 1 + 1 < wr.heap.size) ∧ Hid (Below w.heap.size w wr)) (fun _ i _ => 2 - (intOf i).toNat)
  case atStart => exact ⟨0, by omega, rfl, rfl, Lib.hid (by intro j x hj; rcases j with _ | _ | _ | j <;> simp at hj <;> (try subst hj) <;> go_simp), Lib.hid (by simp), bW HB1⟩
  case round =>
    obtain ⟨k, hk, rfl, rfl, HC, HL, HB⟩ := hrel
    by_cases hlt : k < 2
    · have hl := take_sn ([a, b] : List Int) k hlt [107, 110, 111, 99, 107]
      have hx := HX.out (([a, b] : List Int).getD k 0) (by rw [List.getD_eq_getElem?_getD, List.getElem?_eq_getElem (by exact hlt)]; exact List.getElem_mem _)
      have hc : ∀ x, x = ([a, b] : List Int).getD k 0 → wr.cell? ⟨w1.heap.size + 1 + 1, k, none⟩ = some (.int .i64 x) := fun x hx => HC.out k x (by subst hx; rcases k with _ | _ | _ | k <;> first | rfl | (simp at hlt; done) | omega)
      have hlen := addT_len (([a, b] : List Int).take k) [107, 110, 111, 99, 107] (fun x hx => HX.out x (List.mem_of_mem_take hx))
      obtain ⟨x, HE⟩ : ∃ x, Hid (x = ([a, b] : List Int).getD k 0) := ⟨_, Lib.hid rfl⟩
      have hcell := hc x HE.out
      rw [← HE.out] at hx hl
      have HS := Lib.hid hl
      obtain ⟨hx0, hx1⟩ := hx
      have hlen2 : (addT [107, 110, 111, 99, 107] (([a, b] : List Int).take k)).length ≤ 100 := by rw [List.length_take] at hlen; simp at hlen; omega
      have hi := Lib.itoa_length_le x (by omega) (by omega)
      clear hl hc hlen
      go_wp2_with (go_at_call 32; refine (spec_FormatInt_any x hx0 hx1 _).mono ?_; rintro e w2 ⟨rfl, hb⟩)
      go_roundw
      case rel => exact ⟨k + 1, by omega, by go_num, by rw [HS.out]; exact app3 _ _, Lib.hid (fun j y hj => by rw [hb.cell (p := ⟨_, j, none⟩) HL.out]; exact HC.out j y hj), Lib.hid (Nat.lt_of_lt_of_le HL.out hb.size), bS HB hb⟩
      case measure => simp [intOf]; omega
    · obtain rfl : k = 2 := by omega
      go_wp2
      go_ret2
      refine ⟨?_, HB.out⟩
      simp [fmtT, h1, strV, actT, addT_words]
set_option maxHeartbeats 1000000 in
set_option maxRecDepth 100000 in
theorem spec_fmt5 (a b c : Int) (h1 : actB 5 a b c = true) (w : World) : Calls Tryd.prog 8 #[.agg #[.int .i64 5, .int .i64 a, .int .i64 b, .int .i64 c]] w fun e w' => e = .returned (.tuple #[strV (fmtT 5 a b c), .bool true]) ∧ Below w.heap.size w w' := by
  have hu := Tryd.underlying26
  obtain ⟨_, a0, a1, b0, b1, c0, c1⟩ := actB_in h1
  go_enter Tryd.func8, Tryd.ntmps8
  go_wp2_with ((go_at_call 31; refine (sact_is h1 _).mono ?_; rintro e w1 ⟨rfl, hb⟩; obtain ⟨F1, G1⟩ := bcell hb; have L1 := lt_below hb; have HB1 := Lib.hid (((Below.refl _ _).alloc (Nat.le_refl w.heap.size) _).trans (hb.mono (by simp))); clear hb))
  refine wp_loop_rounds 1 ?_
  rw [rounds_succ]
  go_wp2
  go_ret2
  exact ⟨by simp [fmtT, h1, strV, actT], ((HB1.out.alloc HB1.out.size _).alloc (by have := HB1.out.size; simp; omega) _).alloc (by have := HB1.out.size; simp; omega) _⟩
set_option maxHeartbeats 1000000 in
set_option maxRecDepth 100000 in
theorem spec_fmt6 (a b c : Int) (h1 : actB 6 a b c = true) (w : World) : Calls Tryd.prog 8 #[.agg #[.int .i64 6, .int .i64 a, .int .i64 b, .int .i64 c]] w fun e w' => e = .returned (.tuple #[strV (fmtT 6 a b c), .bool true]) ∧ Below w.heap.size w w' := by
  have hu := Tryd.underlying26
  obtain ⟨_, a0, a1, b0, b1, c0, c1⟩ := actB_in h1
  go_enter Tryd.func8, Tryd.ntmps8
  go_wp2_with ((go_at_call 31; refine (sact_is h1 _).mono ?_; rintro e w1 ⟨rfl, hb⟩; obtain ⟨F1, G1⟩ := bcell hb; have L1 := lt_below hb; have HB1 := Lib.hid (((Below.refl _ _).alloc (Nat.le_refl w.heap.size) _).trans (hb.mono (by simp))); clear hb))
  refine wp_loop_rounds 1 ?_
  rw [rounds_succ]
  go_wp2
  go_ret2
  exact ⟨by simp [fmtT, h1, strV, actT], ((HB1.out.alloc HB1.out.size _).alloc (by have := HB1.out.size; simp; omega) _).alloc (by have := HB1.out.size; simp; omega) _⟩
set_option maxHeartbeats 1000000 in
set_option maxRecDepth 100000 in
theorem spec_fmt7 (a b c : Int) (h1 : actB 7 a b c = true) (w : World) : Calls Tryd.prog 8 #[.agg #[.int .i64 7, .int .i64 a, .int .i64 b, .int .i64 c]] w fun e w' => e = .returned (.tuple #[strV (fmtT 7 a b c), .bool true]) ∧ Below w.heap.size w w' := by
  have hu := Tryd.underlying26
  obtain ⟨_, a0, a1, b0, b1, c0, c1⟩ := actB_in h1
  have HX : Hid (∀ x ∈ ([a] : List Int), -1000000000 ≤ x ∧ x ≤ 1000000000) := Lib.hid (by simp; omega)
  go_enter Tryd.func8, Tryd.ntmps8
  go_wp2_with ((go_at_call 31; refine (sact_is h1 _).mono ?_; rintro e w1 ⟨rfl, hb⟩; obtain ⟨F1, G1⟩ := bcell hb; have L1 := lt_below hb; have HB1 := Lib.hid (((Below.refl _ _).alloc (Nat.le_refl w.heap.size) _).trans (hb.mono (by simp))); clear hb))
  go_loopw [4, 7] (fun s i wr => ∃ k : Nat, k ≤ 1 ∧ i = .int .i64 k ∧ s = .string ⟨(addT [104, 101, 97, 114, 100] (([a] : List Int).take k)).toArray⟩ ∧ Hid (∀ j x, [a, b, c][j]? = some x → wr.cell? ⟨w1.heap.size + 1 + 1, j, none⟩ = some (.int .i64 x)) ∧ Hid (w1.heap.size + 1 + 1 < wr.heap.size) ∧ Hid (Below w.heap.size w wr)) (fun _ i _ => 1 - (intOf i).toNat)
  case atStart => exact ⟨0, by omega, rfl, rfl, Lib.hid (by intro j x hj; rcases j with _ | _ | _ | j <;> simp at hj <;> (try subst hj) <;> go_simp), Lib.hid (by simp), bW HB1⟩
  case round =>
    obtain ⟨k, hk, rfl, rfl, HC, HL, HB⟩ := hrel
    by_cases hlt : k < 1
    · have hl := take_sn ([a] : List Int) k hlt [104, 101, 97, 114, 100]
      have hx := HX.out (([a] : List Int).getD k 0) (by rw [List.getD_eq_getElem?_getD, List.getElem?_eq_getElem (by exact hlt)]; exact List.getElem_mem _)
      have hc : ∀ x, x = ([a] : List Int).getD k 0 → wr.cell? ⟨w1.heap.size + 1 + 1, k, none⟩ = some (.int .i64 x) := fun x hx => HC.out k x (by subst hx; rcases k with _ | _ | _ | k <;> first | rfl | (simp at hlt; done) | omega)
      have hlen := addT_len (([a] : List Int).take k) [104, 101, 97, 114, 100] (fun x hx => HX.out x (List.mem_of_mem_take hx))
      obtain ⟨x, HE⟩ : ∃ x, Hid (x = ([a] : List Int).getD k 0) := ⟨_, Lib.hid rfl⟩
      have hcell := hc x HE.out
      rw [← HE.out] at hx hl
      have HS := Lib.hid hl
      obtain ⟨hx0, hx1⟩ := hx
      have hlen2 : (addT [104, 101, 97, 114, 100] (([a] : List Int).take k)).length ≤ 100 := by rw [List.length_take] at hlen; simp at hlen; omega
      have hi := Lib.itoa_length_le x (by omega) (by omega)
      clear hl hc hlen
      go_wp2_with (go_at_call 32; refine (spec_FormatInt_any x hx0 hx1 _).mono ?_; rintro e w2 ⟨rfl, hb⟩)
      go_roundw
      case rel => exact ⟨k + 1, by omega, by go_num, by rw [HS.out]; exact app3 _ _, Lib.hid (fun j y hj => by rw [hb.cell (p := ⟨_, j, none⟩) HL.out]; exact HC.out j y hj), Lib.hid (Nat.lt_of_lt_of_le HL.out hb.size), bS HB hb⟩
      case measure => simp [intOf]; omega
    · obtain rfl : k = 1 := by omega
      go_wp2
      go_ret2
      refine ⟨?_, HB.out⟩
      simp [fmtT, h1, strV, actT, addT_words]
set_option maxHeartbeats 1000000 in
set_option maxRecDepth 100000 in
theorem spec_FormatAct_any (k a b c : Int) (w : World) : Calls Tryd.prog 8 #[.agg #[.int .i64 k, .int .i64 a, .int .i64 b, .int .i64 c]] w fun e w' => e = .returned (.tuple #[strV (fmtT k a b c), .bool (actB k a b c)]) ∧ Below w.heap.size w w' := by
  cases h1 : actB k a b c
  · go_enter Tryd.func8, Tryd.ntmps8
    go_wp2_with (go_at_call 31; refine (sact_is h1 _).mono ?_; rintro e w1 ⟨rfl, hb⟩)
    go_ret2
    exact ⟨by simp [fmtT, h1, strV], ((Below.refl _ _).alloc (Nat.le_refl _) _).trans (hb.mono (by simp))⟩
  · rcases (actB_in h1).1 with rfl | rfl | rfl | rfl | rfl | rfl | rfl
    · exact spec_fmt1 a b c h1 w
    · exact spec_fmt5 a b c h1 w
    · exact spec_fmt6 a b c h1 w
    · exact spec_fmt2 a b c h1 w
    · exact spec_fmt3 a b c h1 w
    · exact spec_fmt4 a b c h1 w
    · exact spec_fmt7 a b c h1 w

end Go.Proofs.YtpbhoembdoofiaaDoor.T
