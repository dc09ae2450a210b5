/- ScriptText: both sides come to the same text. Conditions: none but those that each statement names. -/
import Derived.Lib.AppendStr
import Derived.Lib.UnsafeStr
import Derived.Laws.IdiomStrings
import Derived.Test.YtpbhoembdoofiaaDoorTstoacts
namespace Go.Proofs.YtpbhoembdoofiaaDoor.T
open Go.RowKit
set_option linter.unusedVariables false
set_option linter.unusedSimpArgs false
def acB (x : Ac) : Bool := actB x.f0 x.f1 x.f2 x.f3
def acT (x : Ac) : List UInt8 := fmtT x.f0 x.f1 x.f2 x.f3 ++ [10]
def scT (xs : List Ac) : List UInt8 := xs.flatMap acT
def scB (xs : List Ac) : Bool := decide (xs.length ≤ 40) && xs.all acB
def scR (xs : List Ac) : List UInt8 := if scB xs = true then scT xs else []
theorem fmtT_len (k a b c : Int) : (fmtT k a b c).length ≤ 2300 := by
  unfold fmtT
  split
  · rename_i h
    obtain ⟨_, a0, a1, b0, b1, c0, c1⟩ := actB_in h
    have h1 := wordsB_len [a] (by simp) (by simp; omega)
    have h2 := wordsB_len [a, b] (by simp) (by simp; omega)
    have h3 := wordsB_len [a, b, c] (by simp) (by simp; omega)
    unfold actT
    repeat' split
    all_goals simp
    all_goals omega
  · simp
theorem acT_len (x : Ac) : (acT x).length ≤ 2301 := by
  have := fmtT_len x.f0 x.f1 x.f2 x.f3
  simp only [acT, List.length_append, List.length_cons, List.length_nil]
  omega
theorem scT_snoc (xs : List Ac) (k : Nat) (h : k < xs.length) : scT (xs.take (k + 1)) = scT (xs.take k) ++ acT (xs.getD k zS) := by
  unfold scT
  rw [List.take_succ_eq_append_getElem h, List.flatMap_append, List.getD_eq_getElem?_getD, List.getElem?_eq_getElem h]
  simp
theorem scT_len : ∀ (xs : List Ac), (scT xs).length ≤ 2301 * xs.length
  | [] => by simp [scT]
  | x :: r => by
    have h1 := acT_len x
    have h2 := scT_len r
    unfold scT at h2 ⊢
    rw [List.flatMap_cons, List.length_append, List.length_cons]
    omega
theorem scB_no {xs : List Ac} {k : Nat} (h : k < xs.length) (hx : acB (xs.getD k zS) = false) : scB xs = false := by
  unfold scB
  have : xs.all acB = false := by
    rw [List.all_eq_false]
    refine ⟨xs.getD k zS, ?_, by rw [hx]; decide⟩
    rw [List.getD_eq_getElem?_getD, List.getElem?_eq_getElem h]
    exact List.getElem_mem h
  rw [this, Bool.and_false]
theorem scB_yes {xs : List Ac} (h : xs.length ≤ 40) (hx : ∀ k, k < xs.length → acB (xs.getD k zS) = true) : scB xs = true := by
  unfold scB
  rw [decide_eq_true h, Bool.true_and, List.all_eq_true]
  intro x hm
  obtain ⟨k, hk, rfl⟩ := List.getElem_of_mem hm
  have := hx k hk
  rw [List.getD_eq_getElem?_getD, List.getElem?_eq_getElem hk] at this
  exact this
theorem bytes_app (l m : List UInt8) : Lib.byteCells (l ++ m) = Lib.byteCells l ++ Lib.byteCells m := by simp [Lib.byteCells]
theorem builder_below {T e B b : Nat} {bs : List Value} {w w1 : World} (h : Lib.IsBuilder T e B b bs w) (hb : Below w.heap.size w w1) : Lib.IsBuilder T e B b bs w1 := by
  rcases h with ⟨h1, v, h2, h3, h4⟩ | ⟨h1, v, h2, h3, h4⟩
  · exact .inl ⟨h1, v, blk_below h2 hb, own_below h3 hb, h4⟩
  · exact .inr ⟨h1, v, blk_below h2 hb, own_below h3 hb, h4⟩
theorem write_any (B b : Nat) (l m : List UInt8) (w : World) (h : Lib.IsBuilder 71 5 B b (Lib.byteCells l) w) (hl : l.length + m.length ≤ 1000000) (hBw : B ≤ w.heap.size) :
    Calls Tryd.prog 35 #[.pointer (some ⟨b, 0, none⟩), .string ⟨m.toArray⟩] w fun e w' => e = .returned (.tuple #[.int .i64 m.length, .nilIface]) ∧ Lib.IsBuilder 71 5 B b (Lib.byteCells (l ++ m)) w' ∧ Below B w w' := by
  have hc := Any.Builder_WriteString (P := Tryd.prog) (ρ := Tryd.lays156_ren) { Tryd.lays156 with } Tryd.Builder_Extra_156 B b (Lib.byteCells l) ⟨m.toArray⟩ w h (by simp [Lib.byteCells, ByteArray.size]; omega) hBw
  refine hc.mono fun e w' ⟨h1, h2, h3⟩ => ⟨by rw [h1]; simp [ByteArray.size], .inr ?_, h3⟩
  rw [bytes_app]
  exact h2
theorem string_any (B b : Nat) (l : List UInt8) (w : World) (h : Lib.IsBuilder 71 5 B b (Lib.byteCells l) w) (hBw : B ≤ w.heap.size) :
    Calls Tryd.prog 36 #[.pointer (some ⟨b, 0, none⟩)] w fun e w' => e = .returned (.string ⟨l.toArray⟩) ∧ Below B w w' :=
  Any.Builder_String_any (P := Tryd.prog) (ρ := Tryd.lays156_ren) { Tryd.lays156 with } Tryd.Builder_Extra_156 B b l w h hBw
theorem str_app (l s : List UInt8) : ((⟨l.toArray⟩ : ByteArray) ++ ⟨s.toArray⟩) = ⟨(l ++ s).toArray⟩ := by
  have h := app_str l s
  injection h
theorem ifmt_ac (x : Ac) {r : Bool} (hx : acB x = r) (w : World) (hT : Tab w) : Calls Tryd.prog 10 #[.agg #[.int .i64 x.f0, .int .i64 x.f1, .int .i64 x.f2, .int .i64 x.f3]] w fun e w' => e = .returned (.tuple #[.string ⟨(fmtT x.f0 x.f1 x.f2 x.f3).toArray⟩, .bool r]) ∧ Below w.heap.size w w' := by have h := ifmt_str x.f0 x.f1 x.f2 x.f3 w hT; unfold acB at hx; rw [hx] at h; exact h
theorem sfmt_ac (x : Ac) {r : Bool} (hx : acB x = r) (w : World) : Calls Tryd.prog 8 #[.agg #[.int .i64 x.f0, .int .i64 x.f1, .int .i64 x.f2, .int .i64 x.f3]] w fun e w' => e = .returned (.tuple #[.string ⟨(fmtT x.f0 x.f1 x.f2 x.f3).toArray⟩, .bool r]) ∧ Below w.heap.size w w' := by have h := sfmt_str x.f0 x.f1 x.f2 x.f3 w; unfold acB at hx; rw [hx] at h; exact h
set_option maxHeartbeats 2000000 in
set_option maxRecDepth 100000 in
theorem impl_ScriptText_any (v : Value) (xs : List Ac) (w : World) (hr : RowS w v xs) (hT : Tab w) : Calls Tryd.prog 14 #[v] w fun e w' => e = .returned (.tuple #[.string ⟨(scR xs).toArray⟩, .bool (scB xs)]) ∧ Below w.heap.size w w' := by
  obtain ⟨A, c, rfl, hcap, hlen⟩ := hr.slice
  have HR := Sd.mk hr
  have HT := Sd.mk hT
  have hu1 := Tryd.underlying26
  have hu2 := Tryd.underlying71
  clear hr hT
  by_cases h40 : 40 < xs.length
  · have HN := Sd.mk (show scB xs = false by unfold scB; rw [decide_eq_false (by omega), Bool.false_and])
    have d1 : decide ((40 : Int) < (xs.length : Int)) = true := decide_eq_true (by omega)
    go_enter Tryd.func14, Tryd.ntmps14
    go_wp2
    go_ret2
    exact ⟨by simp [scR, HN.out], bB (s0 w)⟩
  · have d1 : decide ((40 : Int) < (xs.length : Int)) = false := decide_eq_false (by omega)
    go_enter Tryd.func14, Tryd.ntmps14
    go_wp2
    go_loopw [16] (fun i wr => ∃ k : Nat, k ≤ xs.length ∧ i = .int .i64 k ∧ Sd (∀ j, j < k → acB (xs.getD j zS) = true) ∧ Sd (Lib.IsBuilder 71 5 w.heap.size w.heap.size (Lib.byteCells (scT (xs.take k))) wr) ∧ Sd (Below w.heap.size w wr)) (fun i _ => xs.length - (intOf i).toNat)
    case atStart => exact ⟨0, Nat.zero_le _, rfl, ⟨fun j hj => by omega⟩, ⟨.inl ⟨Nat.le_refl _, _, blk_new _ _, World.ownsRow_nil _ _ _ _, by simp [Value.ownBlock]⟩⟩, ⟨below_al (Below.refl _ _) _⟩⟩
    case round =>
      obtain ⟨k, hk, rfl, HA, HI, HB⟩ := hrel
      by_cases hlt : k < xs.length
      · obtain ⟨b, o, rfl, x0, x1, x2, x3⟩ := RowS.at HR.out k hlt
        replace x0 := cell_on HB.out x0
        replace x1 := cell_on HB.out x1
        replace x2 := cell_on HB.out x2
        replace x3 := cell_on HB.out x3
        have HS := Sd.mk (scT_snoc xs k hlt)
        have HLT := Sd.mk hlt
        obtain ⟨e, HE⟩ : ∃ e, Sd (e = xs.getD k zS) := ⟨_, ⟨rfl⟩⟩
        rw [← HE.out] at x0 x1 x2 x3 HS
        cases b1 : acB e
        · have HN := Sd.mk (scB_no HLT.out (by rw [← HE.out]; exact b1))
          go_wp2_with (first | (go_at_call 10; refine (ifmt_ac e b1 _ (HT.out.below (bB HB))).mono ?_; rintro _ w1 ⟨rfl, hb1⟩; have HB1 := sS HB hb1; clear hb1))
          go_ret2
          exact ⟨by simp [scR, HN.out], HB1.out⟩
        · have hf := fmtT_len e.f0 e.f1 e.f2 e.f3
          have HL := Sd.mk (show (scT (xs.take k)).length + (acT e).length ≤ 1000000 by
            have h1 := scT_len (xs.take k)
            have h2 := acT_len e
            rw [List.length_take] at h1
            omega)
          go_wp2_with (first | (go_at_call 10; refine (ifmt_ac e b1 _ (HT.out.below (bB HB))).mono ?_; rintro _ w1 ⟨rfl, hb1⟩; have HB1 := sS HB hb1; have HI1 := Sd.mk (builder_below HI.out (below_st (below_al (Below.refl _ _) _) hb1)); clear hb1) | (go_at_call 35; rw [show (⟨(fmtT e.f0 e.f1 e.f2 e.f3).toArray⟩ : ByteArray) ++ ⟨#[10]⟩ = ⟨(acT e).toArray⟩ from str_app _ _]; refine (write_any w.heap.size w.heap.size (scT (xs.take k)) (acT e) _ HI1.out HL.out HB1.out.size).mono ?_; rintro _ w2 ⟨rfl, hi2, hb2⟩; have HB2 := Sd.mk (HB1.out.trans hb2); have HI2 := Sd.mk hi2; clear hb2 hi2))
          go_roundw
          case rel => exact ⟨k + 1, by omega, by go_num, ⟨fun j hj => by by_cases e1 : j = k; (subst e1; rw [← HE.out]; exact b1); exact HA.out j (by omega)⟩, ⟨by rw [HS.out]; exact HI2.out⟩, HB2⟩
          case measure => simp [intOf]; omega
      · obtain rfl : k = xs.length := by omega
        have HY := Sd.mk (scB_yes (by omega) HA.out)
        have HI1 : Sd (Lib.IsBuilder 71 5 w.heap.size w.heap.size (Lib.byteCells (scT xs)) wr) := ⟨by have := HI.out; rw [List.take_length] at this; exact this⟩
        go_wp2_with (go_at_call 36; refine (string_any w.heap.size w.heap.size (scT xs) _ HI1.out HB.out.size).mono ?_; rintro _ w1 ⟨rfl, hb1⟩)
        go_ret2
        exact ⟨by simp [scR, HY.out], HB.out.trans hb1⟩

end Go.Proofs.YtpbhoembdoofiaaDoor.T
