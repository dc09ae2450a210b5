import Derived.IntWalk
import Derived.Test.YtpbhoembdoofiaaSF1
namespace Go.Proofs.Ytpbhoembdoofiaa.B
open Go.RowKit Go.Proofs.YtpbhoembdoofiaaW.PrintWords Go.Proofs.YtpbhoembdoofiaaW.PrintLast Go.Proofs.YtpbhoembdoofiaaW.PrintMore Go.Proofs.YtpbhoembdoofiaaW.Zc
set_option linter.unusedVariables false
set_option linter.unusedSimpArgs false
def laws_eqEntry.f (a0_0 : Int) (a0_1 : Int) (a0_2 : Int) (a0_3 : Int) (a1_0 : Int) (a1_1 : Int) (a1_2 : Int) (a1_3 : Int) : Option (Bool) := (laws_eqPipe.f a0_0 a0_1 a1_0 a1_1).bind fun t355 => (if t355 = true then (if a0_2 = a1_2 then (if a0_3 = a1_3 then (some true) else (some false)) else (some false)) else (some false))
set_option maxHeartbeats 8000000 in
set_option maxRecDepth 100000 in
theorem laws_eqEntry.calls (a0_0 : Int) (a0_1 : Int) (a0_2 : Int) (a0_3 : Int) (a1_0 : Int) (a1_1 : Int) (a1_2 : Int) (a1_3 : Int) (r : Bool) (w : World) (h : laws_eqEntry.f a0_0 a0_1 a0_2 a0_3 a1_0 a1_1 a1_2 a1_3 = some r) :
    Calls Try.prog 61 #[.agg #[.int .i64 a0_0, .int .i64 a0_1, .int .i64 a0_2, .int .i64 a0_3], .agg #[.int .i64 a1_0, .int .i64 a1_1, .int .i64 a1_2, .int .i64 a1_3]] w fun e w' => e = .returned (.bool r) ∧ Below w.heap.size w w' := by
 have hu61 := Try.underlying61
 have hu41 := Try.underlying41
 have HB := Aside0.mk (Below.refl w.heap.size w)
 have H : ((laws_eqPipe.f a0_0 a0_1 a1_0 a1_1).bind fun t355 => (if t355 = true then (if a0_2 = a1_2 then (if a0_3 = a1_3 then (some true) else (some false)) else (some false)) else (some false))) = some r := h
 clear h
 obtain ⟨t355, A3, H⟩ := bsI H
 by_cases c4 : t355 = true
 ·subst c4
  rw [if_pos rfl] at H
  by_cases c5 : a0_2 = a1_2
  ·rw [if_pos c5] at H
   have c5b0 := beqT c5
   have c5b1 := bneF c5
   clear c5
   by_cases c6 : a0_3 = a1_3
   ·rw [if_pos c6] at H
    have c6b0 := beqT c6
    have c6b1 := bneF c6
    clear c6
    obtain rfl := Option.some.inj H
    go_enter Try.func61, Try.ntmps61
    go_wp2_with (first | ((with_reducible refine bZx 2 (h := ?_)); refine bxE #[.int .i64 a0_0, .int .i64 a0_1, .int .i64 a0_2, .int .i64 a0_3] 61 ?_; intro gb353 hg w7 hbox hb; have BK353 := Aside0.mk (hbox); have GE353 := szB hg; replace HB := bbB hb; clear hb hbox hg) | ((with_reducible refine bZx 3 (h := ?_)); refine bxE #[.int .i64 a1_0, .int .i64 a1_1, .int .i64 a1_2, .int .i64 a1_3] 61 ?_; intro gb354 hg w8 hbox hb; have BK354 := Aside0.mk (hbox); have GE354 := szB hg; replace HB := bbB hb; have NB353_354 := nlB BK353 hg; have NB354_353 := ngB BK353 hg; replace BK353 := kbB BK353 hb; clear hb hbox hg; have hnb9 := NB353_354.out; have hnc9 := NB354_353.out; obtain ⟨hcz10_0, hcz10_1, hcz10_2, hcz10_3, hfz10_0, hfz10_1, hfz10_2, hfz10_3⟩ := kZc4 BK353; obtain ⟨hcz11_0, hcz11_1, hcz11_2, hcz11_3, hfz11_0, hfz11_1, hfz11_2, hfz11_3⟩ := kZc4 BK354) | ((with_reducible refine gZc 85 (h := ?_)); refine gL 9 Try.func85 #[.agg #[.int .i64 a0_0, .int .i64 a0_1], .agg #[.int .i64 a1_0, .int .i64 a1_1]] ?_; (with_reducible refine (laws_eqPipe.calls a0_0 a0_1 a1_0 a1_1 true _ A3.out).mono ?_); rintro e w12 ⟨rfl, hb⟩; refine ⟨_, rfl, ?_⟩; replace BK353 := kbB BK353 hb; replace BK354 := kbB BK354 hb; replace HB := bbB hb; (try clear hb); obtain ⟨hcz13_0, hcz13_1, hcz13_2, hcz13_3, hfz13_0, hfz13_1, hfz13_2, hfz13_3⟩ := kZc4 BK353; obtain ⟨hcz14_0, hcz14_1, hcz14_2, hcz14_3, hfz14_0, hfz14_1, hfz14_2, hfz14_3⟩ := kZc4 BK354))
    go_ret
    exact ⟨EV, BB⟩
   ·rw [if_neg c6] at H
    have c6b0 := beqF c6
    have c6b1 := bneT c6
    obtain rfl := Option.some.inj H
    go_enter Try.func61, Try.ntmps61
    go_wp2_with (first | ((with_reducible refine bZx 2 (h := ?_)); refine bxE #[.int .i64 a0_0, .int .i64 a0_1, .int .i64 a0_2, .int .i64 a0_3] 61 ?_; intro gb353 hg w15 hbox hb; have BK353 := Aside0.mk (hbox); have GE353 := szB hg; replace HB := bbB hb; clear hb hbox hg) | ((with_reducible refine bZx 3 (h := ?_)); refine bxE #[.int .i64 a1_0, .int .i64 a1_1, .int .i64 a1_2, .int .i64 a1_3] 61 ?_; intro gb354 hg w16 hbox hb; have BK354 := Aside0.mk (hbox); have GE354 := szB hg; replace HB := bbB hb; have NB353_354 := nlB BK353 hg; have NB354_353 := ngB BK353 hg; replace BK353 := kbB BK353 hb; clear hb hbox hg; have hnb17 := NB353_354.out; have hnc17 := NB354_353.out; obtain ⟨hcz18_0, hcz18_1, hcz18_2, hcz18_3, hfz18_0, hfz18_1, hfz18_2, hfz18_3⟩ := kZc4 BK353; obtain ⟨hcz19_0, hcz19_1, hcz19_2, hcz19_3, hfz19_0, hfz19_1, hfz19_2, hfz19_3⟩ := kZc4 BK354) | ((with_reducible refine gZc 85 (h := ?_)); refine gL 9 Try.func85 #[.agg #[.int .i64 a0_0, .int .i64 a0_1], .agg #[.int .i64 a1_0, .int .i64 a1_1]] ?_; (with_reducible refine (laws_eqPipe.calls a0_0 a0_1 a1_0 a1_1 true _ A3.out).mono ?_); rintro e w20 ⟨rfl, hb⟩; refine ⟨_, rfl, ?_⟩; replace BK353 := kbB BK353 hb; replace BK354 := kbB BK354 hb; replace HB := bbB hb; (try clear hb); obtain ⟨hcz21_0, hcz21_1, hcz21_2, hcz21_3, hfz21_0, hfz21_1, hfz21_2, hfz21_3⟩ := kZc4 BK353; obtain ⟨hcz22_0, hcz22_1, hcz22_2, hcz22_3, hfz22_0, hfz22_1, hfz22_2, hfz22_3⟩ := kZc4 BK354))
    go_ret
    exact ⟨EV, BB⟩
  ·rw [if_neg c5] at H
   have c5b0 := beqF c5
   have c5b1 := bneT c5
   obtain rfl := Option.some.inj H
   go_enter Try.func61, Try.ntmps61
   go_wp2_with (first | ((with_reducible refine bZx 2 (h := ?_)); refine bxE #[.int .i64 a0_0, .int .i64 a0_1, .int .i64 a0_2, .int .i64 a0_3] 61 ?_; intro gb353 hg w23 hbox hb; have BK353 := Aside0.mk (hbox); have GE353 := szB hg; replace HB := bbB hb; clear hb hbox hg) | ((with_reducible refine bZx 3 (h := ?_)); refine bxE #[.int .i64 a1_0, .int .i64 a1_1, .int .i64 a1_2, .int .i64 a1_3] 61 ?_; intro gb354 hg w24 hbox hb; have BK354 := Aside0.mk (hbox); have GE354 := szB hg; replace HB := bbB hb; have NB353_354 := nlB BK353 hg; have NB354_353 := ngB BK353 hg; replace BK353 := kbB BK353 hb; clear hb hbox hg; have hnb25 := NB353_354.out; have hnc25 := NB354_353.out; obtain ⟨hcz26_0, hcz26_1, hcz26_2, hcz26_3, hfz26_0, hfz26_1, hfz26_2, hfz26_3⟩ := kZc4 BK353; obtain ⟨hcz27_0, hcz27_1, hcz27_2, hcz27_3, hfz27_0, hfz27_1, hfz27_2, hfz27_3⟩ := kZc4 BK354) | ((with_reducible refine gZc 85 (h := ?_)); refine gL 9 Try.func85 #[.agg #[.int .i64 a0_0, .int .i64 a0_1], .agg #[.int .i64 a1_0, .int .i64 a1_1]] ?_; (with_reducible refine (laws_eqPipe.calls a0_0 a0_1 a1_0 a1_1 true _ A3.out).mono ?_); rintro e w28 ⟨rfl, hb⟩; refine ⟨_, rfl, ?_⟩; replace BK353 := kbB BK353 hb; replace BK354 := kbB BK354 hb; replace HB := bbB hb; (try clear hb); obtain ⟨hcz29_0, hcz29_1, hcz29_2, hcz29_3, hfz29_0, hfz29_1, hfz29_2, hfz29_3⟩ := kZc4 BK353; obtain ⟨hcz30_0, hcz30_1, hcz30_2, hcz30_3, hfz30_0, hfz30_1, hfz30_2, hfz30_3⟩ := kZc4 BK354))
   go_ret
   exact ⟨EV, BB⟩
 ·replace c4 := Bool.eq_false_iff.mpr c4
  subst c4
  rw [if_neg nft] at H
  obtain rfl := Option.some.inj H
  go_enter Try.func61, Try.ntmps61
  go_wp2_with (first | ((with_reducible refine bZx 2 (h := ?_)); refine bxE #[.int .i64 a0_0, .int .i64 a0_1, .int .i64 a0_2, .int .i64 a0_3] 61 ?_; intro gb353 hg w31 hbox hb; have BK353 := Aside0.mk (hbox); have GE353 := szB hg; replace HB := bbB hb; clear hb hbox hg) | ((with_reducible refine bZx 3 (h := ?_)); refine bxE #[.int .i64 a1_0, .int .i64 a1_1, .int .i64 a1_2, .int .i64 a1_3] 61 ?_; intro gb354 hg w32 hbox hb; have BK354 := Aside0.mk (hbox); have GE354 := szB hg; replace HB := bbB hb; have NB353_354 := nlB BK353 hg; have NB354_353 := ngB BK353 hg; replace BK353 := kbB BK353 hb; clear hb hbox hg; have hnb33 := NB353_354.out; have hnc33 := NB354_353.out; obtain ⟨hcz34_0, hcz34_1, hcz34_2, hcz34_3, hfz34_0, hfz34_1, hfz34_2, hfz34_3⟩ := kZc4 BK353; obtain ⟨hcz35_0, hcz35_1, hcz35_2, hcz35_3, hfz35_0, hfz35_1, hfz35_2, hfz35_3⟩ := kZc4 BK354) | ((with_reducible refine gZc 85 (h := ?_)); refine gL 9 Try.func85 #[.agg #[.int .i64 a0_0, .int .i64 a0_1], .agg #[.int .i64 a1_0, .int .i64 a1_1]] ?_; (with_reducible refine (laws_eqPipe.calls a0_0 a0_1 a1_0 a1_1 false _ A3.out).mono ?_); rintro e w36 ⟨rfl, hb⟩; refine ⟨_, rfl, ?_⟩; replace BK353 := kbB BK353 hb; replace BK354 := kbB BK354 hb; replace HB := bbB hb; (try clear hb)))
  go_ret
  exact ⟨EV, BB⟩
end Go.Proofs.Ytpbhoembdoofiaa.B
namespace Go.Proofs.Ytpbhoembdoofiaa.B
open Go.RowKit Go.Proofs.YtpbhoembdoofiaaW.PrintWords Go.Proofs.YtpbhoembdoofiaaW.PrintLast Go.Proofs.YtpbhoembdoofiaaW.PrintMore Go.Proofs.YtpbhoembdoofiaaW.Zc
set_option linter.unusedVariables false
set_option linter.unusedSimpArgs false
def laws_eqEntryS.l0 : Nat → List (S61) → List (S61) → Int → Option (Bool)
  | 0, _, _, _ => none
  | k + 1, x0, x1, x5 => if x5 < (x0.length : Int) then (if 0 ≤ x5 then (if x5 < (x1.length : Int) then ((laws_eqEntry.f ((rd_T61 x0 x5).f0.f0) ((rd_T61 x0 x5).f0.f1) ((rd_T61 x0 x5).f1) ((rd_T61 x0 x5).f2) ((rd_T61 x1 x5).f0.f0) ((rd_T61 x1 x5).f0.f1) ((rd_T61 x1 x5).f1) ((rd_T61 x1 x5).f2)).bind fun t358 => (if t358 = true then (laws_eqEntryS.l0 k x0 x1 (wrap64 (x5 + 1))) else (some false))) else (none)) else (none)) else (some true)
def laws_eqEntryS.f (k : Nat) (l0 : List (S61)) (l1 : List (S61)) : Option (Bool) := if (l0.length : Int) = (l1.length : Int) then (laws_eqEntryS.l0 k l0 l1 0) else (some false)
def laws_eqEntryS.T6 : Bool × List (List Nat × List Nat) := (true, [([], []), ([], []), ([0, 1], [0, 1]), ([2], [2]), ([], []), ([], []), ([4, 5], [4, 5]), ([6], [6]), ([3, 7], [3, 7]), ([8], [8])])
def laws_eqEntryS.B6 : List Nat := [0, 0, 3, 7, 0, 0, 48, 112, 255, 511]
theorem laws_eqEntryS.tab6 : rtab .any (opsOf Try.f32 6) = laws_eqEntryS.T6 := by kernel_rfl
theorem laws_eqEntryS.bits6 : waitsOk laws_eqEntryS.T6.2 laws_eqEntryS.B6 = true := by kernel_rfl
set_option maxHeartbeats 8000000 in
set_option maxRecDepth 100000 in
theorem laws_eqEntryS.calls (k : Nat) (A0 : Option Addr) (c0 : Nat) (l0 : List (S61)) (A1 : Option Addr) (c1 : Nat) (l1 : List (S61)) (r : Bool) (w : World) (hr0 : Kd.C k61 w A0 l0.length l0) (hc0 : l0.length ≤ c0) (hr1 : Kd.C k61 w A1 l1.length l1) (hc1 : l1.length ≤ c1) (h : laws_eqEntryS.f k l0 l1 = some r) :
    Calls Try.prog 32 #[.slice A0 l0.length c0, .slice A1 l1.length c1] w fun e w' => e = .returned (.bool r) ∧ Below w.heap.size w w' := by
 have hu61 := Try.underlying61
 have HR0 := Aside0.mk hr0
 have HC0 := Aside0.mk hc0
 clear hr0 hc0
 have HR1 := Aside0.mk hr1
 have HC1 := Aside0.mk hc1
 clear hr1 hc1
 have HB := Aside0.mk (Below.refl w.heap.size w)
 have H : (if (l0.length : Int) = (l1.length : Int) then (laws_eqEntryS.l0 k l0 l1 0) else (some false)) = some r := h
 clear h
 by_cases c3 : (l0.length : Int) = (l1.length : Int)
 ·rw [if_pos c3] at H
  have c3b0 := beqT c3
  have c3b1 := bneF c3
  have c3b2 : (l0.length == l1.length) = true := by first | simpa using c3 | (simp at c3 ⊢; omega)
  clear c3
  have H' := Aside0.mk H
  clear H
  go_enter Try.func32, Try.ntmps32
  go_wp2
  go_loopg [5] k (fun kq v5 w' => ∃ (x5_1 : Int), v5 = .int .i64 x5_1 ∧ Aside0 (laws_eqEntryS.l0 kq l0 l1 x5_1 = some r) ∧ Aside0 (kq ≤ k) ∧ Aside0 (Below w.heap.size w w'))
  case atStart => exact ⟨(0), RF, H', ⟨Nat.le_refl _⟩, ⟨BB⟩⟩
  case round =>
   clear H'
   try clear c1
   try clear p2
   try clear c3
   try clear c3b0
   try clear c3b1
   try clear c3b2
   obtain ⟨x5_1, rfl, HA, HK1, HB⟩ := hrel
   cases gk with
   | zero => exact absurd HA.out (by simp [laws_eqEntryS.l0])
   | succ k1 =>
    have H := HA.out
    clear HA
    simp only [laws_eqEntryS.l0] at H
    by_cases c4 : x5_1 < (l0.length : Int)
    ·rw [if_pos c4] at H
     have c4b0 := decide_eq_true c4
     clear c4
     by_cases c5 : 0 ≤ x5_1
     ·rw [if_pos c5] at H
      have c5b0 := decide_eq_true c5
      clear c5
      by_cases c6 : x5_1 < (l1.length : Int)
      ·rw [if_pos c6] at H
       have c6b0 := decide_eq_true c6
       clear c6
       obtain ⟨t358, A7, H⟩ := bsI H
       by_cases c8 : t358 = true
       ·subst c8
        rw [if_pos rfl] at H
        have H' := Aside0.mk H
        clear H
        try go_wp2
        replace HB := Aside0.mk (below_drew1 HB.out)
        have p356 : 0 ≤ (x5_1 : Int) := odt
        have q356 : x5_1 < (l0.length : Int) := odt
        obtain ⟨ad356, e356, hx356_0, hx356_1, hx356_2, hx356_3⟩ := at_T61 HR0.out x5_1 p356 q356
        have hw356_3 := hx356_3
        have hw356_2 := hx356_2
        have hw356_1 := hx356_1
        have hw356_0 := hx356_0
        cases e356
        replace hx356_0 := pw_cell_below HB.out hx356_0
        replace hx356_1 := pw_cell_below HB.out hx356_1
        replace hx356_2 := pw_cell_below HB.out hx356_2
        replace hx356_3 := pw_cell_below HB.out hx356_3
        replace p356 := eq_true p356
        replace q356 := eq_true q356
        have p357 : 0 ≤ (x5_1 : Int) := odt
        have q357 : x5_1 < (l1.length : Int) := odt
        obtain ⟨ad357, e357, hx357_0, hx357_1, hx357_2, hx357_3⟩ := at_T61 HR1.out x5_1 p357 q357
        have hw357_3 := hx357_3
        have hw357_2 := hx357_2
        have hw357_1 := hx357_1
        have hw357_0 := hx357_0
        cases e357
        replace hx357_0 := pw_cell_below HB.out hx357_0
        replace hx357_1 := pw_cell_below HB.out hx357_1
        replace hx357_2 := pw_cell_below HB.out hx357_2
        replace hx357_3 := pw_cell_below HB.out hx357_3
        replace p357 := eq_true p357
        replace q357 := eq_true q357
        refine start_ (n := 10) (S := fun w' => w'.cell? (ad356.add ((x5_1).toNat * 4)) = some (.int .i64 ((rd_T61 l0 x5_1).f0.f0)) ∧ w'.cell? ⟨(ad356.add ((x5_1).toNat * 4)).block, (ad356.add ((x5_1).toNat * 4)).off + 1, none⟩ = some (.int .i64 ((rd_T61 l0 x5_1).f0.f1)) ∧ w'.cell? ⟨(ad356.add ((x5_1).toNat * 4)).block, (ad356.add ((x5_1).toNat * 4)).off + 2, none⟩ = some (.int .i64 ((rd_T61 l0 x5_1).f1)) ∧ w'.cell? ⟨(ad356.add ((x5_1).toNat * 4)).block, (ad356.add ((x5_1).toNat * 4)).off + 3, none⟩ = some (.int .i64 ((rd_T61 l0 x5_1).f2)) ∧ w'.cell? (ad357.add ((x5_1).toNat * 4)) = some (.int .i64 ((rd_T61 l1 x5_1).f0.f0)) ∧ w'.cell? ⟨(ad357.add ((x5_1).toNat * 4)).block, (ad357.add ((x5_1).toNat * 4)).off + 1, none⟩ = some (.int .i64 ((rd_T61 l1 x5_1).f0.f1)) ∧ w'.cell? ⟨(ad357.add ((x5_1).toNat * 4)).block, (ad357.add ((x5_1).toNat * 4)).off + 2, none⟩ = some (.int .i64 ((rd_T61 l1 x5_1).f1)) ∧ w'.cell? ⟨(ad357.add ((x5_1).toNat * 4)).block, (ad357.add ((x5_1).toNat * 4)).off + 3, none⟩ = some (.int .i64 ((rd_T61 l1 x5_1).f2))) (ds := []) (Array.replicate 10 false) (by kernel_rfl) rfl rfl ⟨(pw_cell_below HB.out hw356_0), (pw_cell_below HB.out hw356_1), (pw_cell_below HB.out hw356_2), (pw_cell_below HB.out hw356_3), (pw_cell_below HB.out hw357_0), (pw_cell_below HB.out hw357_1), (pw_cell_below HB.out hw357_2), (pw_cell_below HB.out hw357_3)⟩ (fun hHeld => ?_); refine with_tabW laws_eqEntryS.tab6 laws_eqEntryS.bits6 (fun HT_ HW_ => ?_)
        generalize wr.drew = w9 at HB hx356_0 hx356_1 hx356_2 hx356_3 hx357_0 hx357_1 hx357_2 hx357_3 hHeld ⊢
        refine pZu 0 17 HT_ (h := ?_)
        refine pZu 1 18 HT_ (h := ?_)
        refine pZu 2 19 HT_ (h := ?_)
        refine pZu 4 21 HT_ (h := ?_)
        refine pZu 5 22 HT_ (h := ?_)
        refine pZu 6 23 HT_ (h := ?_)
        refine tZk 3 20 HT_ HW_ hHeld (h := ?_)
        refine tZk 7 24 HT_ HW_ hHeld (h := ?_)
        refine oZn 8 (some 25) HT_ (h := fun K hK => ?_)
        refine goes_ Try.func61 (by kernel_rfl) rfl #[.agg #[.int .i64 ((rd_T61 l0 x5_1).f0.f0), .int .i64 ((rd_T61 l0 x5_1).f0.f1), .int .i64 ((rd_T61 l0 x5_1).f1), .int .i64 ((rd_T61 l0 x5_1).f2)], .agg #[.int .i64 ((rd_T61 l1 x5_1).f0.f0), .int .i64 ((rd_T61 l1 x5_1).f0.f1), .int .i64 ((rd_T61 l1 x5_1).f1), .int .i64 ((rd_T61 l1 x5_1).f2)]] (by rfl) rfl rfl MP ?_
        with_reducible refine (laws_eqEntry.calls ((rd_T61 l0 x5_1).f0.f0) ((rd_T61 l0 x5_1).f0.f1) ((rd_T61 l0 x5_1).f1) ((rd_T61 l0 x5_1).f2) ((rd_T61 l1 x5_1).f0.f0) ((rd_T61 l1 x5_1).f0.f1) ((rd_T61 l1 x5_1).f1) ((rd_T61 l1 x5_1).f2) true _ A7.out).mono ?_
        rintro e w10 ⟨rfl, hb⟩
        refine ⟨_, rfl, ?_⟩
        replace HB := bbB hb
        (try clear hb)
        refine hK.out _ _ ⟨(pw_cell_below HB.out hw356_0), (pw_cell_below HB.out hw356_1), (pw_cell_below HB.out hw356_2), (pw_cell_below HB.out hw356_3), (pw_cell_below HB.out hw357_0), (pw_cell_below HB.out hw357_1), (pw_cell_below HB.out hw357_2), (pw_cell_below HB.out hw357_3)⟩ (fun hHeld => ?_)
        clear hK K
        refine nZm (h := ?_)
        refine pZu 9 26 HT_ (h := ?_)
        refine done_ (done_of HT_.out (by kernel_rfl)) ?_
        try go_wp2
        go_roundg k1
        case measure => have := HK1.out; omega
        case rel => exact ⟨(wrap64 (x5_1 + 1)), RF, H', ⟨by have := HK1.out; omega⟩, ⟨BB⟩⟩
       ·replace c8 := Bool.eq_false_iff.mpr c8
        subst c8
        rw [if_neg nft] at H
        obtain rfl := Option.some.inj H
        try go_wp2
        replace HB := Aside0.mk (below_drew1 HB.out)
        have p356 : 0 ≤ (x5_1 : Int) := odt
        have q356 : x5_1 < (l0.length : Int) := odt
        obtain ⟨ad356, e356, hx356_0, hx356_1, hx356_2, hx356_3⟩ := at_T61 HR0.out x5_1 p356 q356
        have hw356_3 := hx356_3
        have hw356_2 := hx356_2
        have hw356_1 := hx356_1
        have hw356_0 := hx356_0
        cases e356
        replace hx356_0 := pw_cell_below HB.out hx356_0
        replace hx356_1 := pw_cell_below HB.out hx356_1
        replace hx356_2 := pw_cell_below HB.out hx356_2
        replace hx356_3 := pw_cell_below HB.out hx356_3
        replace p356 := eq_true p356
        replace q356 := eq_true q356
        have p357 : 0 ≤ (x5_1 : Int) := odt
        have q357 : x5_1 < (l1.length : Int) := odt
        obtain ⟨ad357, e357, hx357_0, hx357_1, hx357_2, hx357_3⟩ := at_T61 HR1.out x5_1 p357 q357
        have hw357_3 := hx357_3
        have hw357_2 := hx357_2
        have hw357_1 := hx357_1
        have hw357_0 := hx357_0
        cases e357
        replace hx357_0 := pw_cell_below HB.out hx357_0
        replace hx357_1 := pw_cell_below HB.out hx357_1
        replace hx357_2 := pw_cell_below HB.out hx357_2
        replace hx357_3 := pw_cell_below HB.out hx357_3
        replace p357 := eq_true p357
        replace q357 := eq_true q357
        refine start_ (n := 10) (S := fun w' => w'.cell? (ad356.add ((x5_1).toNat * 4)) = some (.int .i64 ((rd_T61 l0 x5_1).f0.f0)) ∧ w'.cell? ⟨(ad356.add ((x5_1).toNat * 4)).block, (ad356.add ((x5_1).toNat * 4)).off + 1, none⟩ = some (.int .i64 ((rd_T61 l0 x5_1).f0.f1)) ∧ w'.cell? ⟨(ad356.add ((x5_1).toNat * 4)).block, (ad356.add ((x5_1).toNat * 4)).off + 2, none⟩ = some (.int .i64 ((rd_T61 l0 x5_1).f1)) ∧ w'.cell? ⟨(ad356.add ((x5_1).toNat * 4)).block, (ad356.add ((x5_1).toNat * 4)).off + 3, none⟩ = some (.int .i64 ((rd_T61 l0 x5_1).f2)) ∧ w'.cell? (ad357.add ((x5_1).toNat * 4)) = some (.int .i64 ((rd_T61 l1 x5_1).f0.f0)) ∧ w'.cell? ⟨(ad357.add ((x5_1).toNat * 4)).block, (ad357.add ((x5_1).toNat * 4)).off + 1, none⟩ = some (.int .i64 ((rd_T61 l1 x5_1).f0.f1)) ∧ w'.cell? ⟨(ad357.add ((x5_1).toNat * 4)).block, (ad357.add ((x5_1).toNat * 4)).off + 2, none⟩ = some (.int .i64 ((rd_T61 l1 x5_1).f1)) ∧ w'.cell? ⟨(ad357.add ((x5_1).toNat * 4)).block, (ad357.add ((x5_1).toNat * 4)).off + 3, none⟩ = some (.int .i64 ((rd_T61 l1 x5_1).f2))) (ds := []) (Array.replicate 10 false) (by kernel_rfl) rfl rfl ⟨(pw_cell_below HB.out hw356_0), (pw_cell_below HB.out hw356_1), (pw_cell_below HB.out hw356_2), (pw_cell_below HB.out hw356_3), (pw_cell_below HB.out hw357_0), (pw_cell_below HB.out hw357_1), (pw_cell_below HB.out hw357_2), (pw_cell_below HB.out hw357_3)⟩ (fun hHeld => ?_); refine with_tabW laws_eqEntryS.tab6 laws_eqEntryS.bits6 (fun HT_ HW_ => ?_)
        generalize wr.drew = w11 at HB hx356_0 hx356_1 hx356_2 hx356_3 hx357_0 hx357_1 hx357_2 hx357_3 hHeld ⊢
        refine pZu 0 17 HT_ (h := ?_)
        refine pZu 1 18 HT_ (h := ?_)
        refine pZu 2 19 HT_ (h := ?_)
        refine pZu 4 21 HT_ (h := ?_)
        refine pZu 5 22 HT_ (h := ?_)
        refine pZu 6 23 HT_ (h := ?_)
        refine tZk 3 20 HT_ HW_ hHeld (h := ?_)
        refine tZk 7 24 HT_ HW_ hHeld (h := ?_)
        refine oZn 8 (some 25) HT_ (h := fun K hK => ?_)
        refine goes_ Try.func61 (by kernel_rfl) rfl #[.agg #[.int .i64 ((rd_T61 l0 x5_1).f0.f0), .int .i64 ((rd_T61 l0 x5_1).f0.f1), .int .i64 ((rd_T61 l0 x5_1).f1), .int .i64 ((rd_T61 l0 x5_1).f2)], .agg #[.int .i64 ((rd_T61 l1 x5_1).f0.f0), .int .i64 ((rd_T61 l1 x5_1).f0.f1), .int .i64 ((rd_T61 l1 x5_1).f1), .int .i64 ((rd_T61 l1 x5_1).f2)]] (by rfl) rfl rfl MP ?_
        with_reducible refine (laws_eqEntry.calls ((rd_T61 l0 x5_1).f0.f0) ((rd_T61 l0 x5_1).f0.f1) ((rd_T61 l0 x5_1).f1) ((rd_T61 l0 x5_1).f2) ((rd_T61 l1 x5_1).f0.f0) ((rd_T61 l1 x5_1).f0.f1) ((rd_T61 l1 x5_1).f1) ((rd_T61 l1 x5_1).f2) false _ A7.out).mono ?_
        rintro e w12 ⟨rfl, hb⟩
        refine ⟨_, rfl, ?_⟩
        replace HB := bbB hb
        (try clear hb)
        refine hK.out _ _ ⟨(pw_cell_below HB.out hw356_0), (pw_cell_below HB.out hw356_1), (pw_cell_below HB.out hw356_2), (pw_cell_below HB.out hw356_3), (pw_cell_below HB.out hw357_0), (pw_cell_below HB.out hw357_1), (pw_cell_below HB.out hw357_2), (pw_cell_below HB.out hw357_3)⟩ (fun hHeld => ?_)
        clear hK K
        refine nZm (h := ?_)
        refine pZu 9 26 HT_ (h := ?_)
        refine done_ (done_of HT_.out (by kernel_rfl)) ?_
        try go_wp2
        go_ret
        exact ⟨EV, BB⟩
      ·rw [if_neg c6] at H
       exact absurd H (by simp)
     ·rw [if_neg c5] at H
      exact absurd H (by simp)
    ·rw [if_neg c4] at H
     have c4b0 := decide_eq_false c4
     clear c4
     obtain rfl := Option.some.inj H
     go_wp2
     go_ret
     exact ⟨EV, BB⟩
 ·rw [if_neg c3] at H
  have c3b0 := beqF c3
  have c3b1 := bneT c3
  have c3b2 : (l0.length == l1.length) = false := by first | simpa using c3 | (simp at c3 ⊢; omega)
  obtain rfl := Option.some.inj H
  go_enter Try.func32, Try.ntmps32
  go_wp2
  go_ret
  exact ⟨EV, BB⟩
end Go.Proofs.Ytpbhoembdoofiaa.B
namespace Go.Proofs.Ytpbhoembdoofiaa.B
open Go.RowKit Go.Proofs.YtpbhoembdoofiaaW.PrintWords Go.Proofs.YtpbhoembdoofiaaW.PrintLast Go.Proofs.YtpbhoembdoofiaaW.PrintMore Go.Proofs.YtpbhoembdoofiaaW.Zc
set_option linter.unusedVariables false
set_option linter.unusedSimpArgs false
def laws_markStepS.l0 : Nat → List (S100) → Int → Int → Option (Int × (List (S100)))
  | 0, _, _, _ => none
  | k + 1, x0, x1, x5 => if x5 < (x0.length : Int) then (if 0 ≤ x5 then ((some (x0.set (x5 : Int).toNat (⟨x1, (rd_T100 x0 x5).f1, (rd_T100 x0 x5).f2, (rd_T100 x0 x5).f3⟩ : S100) : List (S100))).bind fun y363 => ((some (y363.set (x5 : Int).toNat (⟨(rd_T100 y363 x5).f0, wrap64 (x1 + 1), (rd_T100 y363 x5).f2, (rd_T100 y363 x5).f3⟩ : S100) : List (S100))).bind fun y364 => ((some (y364.set (x5 : Int).toNat (⟨(rd_T100 y364 x5).f0, (rd_T100 y364 x5).f1, wrap64 ((wrap64 (x1 + 1)) + 1), (rd_T100 y364 x5).f3⟩ : S100) : List (S100))).bind fun y365 => (laws_markStepS.l0 k (y365.set (x5 : Int).toNat (⟨(rd_T100 y365 x5).f0, (rd_T100 y365 x5).f1, (rd_T100 y365 x5).f2, wrap64 ((wrap64 ((wrap64 (x1 + 1)) + 1)) + 1)⟩ : S100)) (wrap64 ((wrap64 ((wrap64 ((wrap64 (x1 + 1)) + 1)) + 1)) + 1)) (wrap64 (x5 + 1)))))) else (none)) else (some (x1, x0))
def laws_markStepS.f (k : Nat) (l0 : List (S100)) (a1 : Int) : Option (Int × (List (S100))) := laws_markStepS.l0 k l0 a1 0
set_option maxHeartbeats 8000000 in
set_option maxRecDepth 100000 in
theorem laws_markStepS.calls (k : Nat) (P0_ : Nat → Prop) (u9000_ : Value) (l0 : List (S100)) (a1 : Int) (r1 : Int) (r2 : List (S100)) (w0 w : World) (hB : Below w0.heap.size w0 w) (ho0 : Kd.R k100 100 w w0.heap.size P0_ u9000_ l0) (h : laws_markStepS.f k l0 a1 = some (r1, r2)) :
    Calls Try.prog 62 #[u9000_, .int .i64 a1] w fun e w' => e = .returned (.int .i64 r1) ∧ Kd.R k100 100 w' w0.heap.size (fun k_ => (P0_ k_ ∨ w.heap.size ≤ k_)) u9000_ r2 ∧ Below w0.heap.size w0 w' ∧ Kept w w' (fun k_ => P0_ k_) := by
 have HO0 := Aside0.mk (show Kd.R k100 100 w w0.heap.size (fun k_ => (P0_ k_ ∨ w.heap.size ≤ k_)) u9000_ l0 from Kd.R_mono ho0 (fun k_ hk => (.inl hk)))
 have HK := Aside0.mk (Kept.refl w (fun k_ => P0_ k_))
 have HW0 := Aside0.mk hB.size
 have HB := Aside0.mk hB
 clear hB
 have H : (laws_markStepS.l0 k l0 a1 0) = some (r1, r2) := h
 clear h
 have H' := Aside0.mk H
 clear H
 go_enter Try.func62, Try.ntmps62
 go_wp2
 go_loopg [1, 5] k (fun kq v1 v5 w' => ∃ (x0_1 : List (S100)) (x1_1 : Int) (x5_1 : Int), v1 = .int .i64 x1_1 ∧ v5 = .int .i64 x5_1 ∧ Aside0 (laws_markStepS.l0 kq x0_1 x1_1 x5_1 = some (r1, r2)) ∧ Aside0 (kq ≤ k) ∧ Aside0 (Kd.R k100 100 w' w0.heap.size (fun k_ => (P0_ k_ ∨ w.heap.size ≤ k_)) u9000_ x0_1) ∧ Aside0 (Kept w w' (fun k_ => P0_ k_)) ∧ Aside0 (Below w0.heap.size w0 w'))
 case atStart => exact ⟨(l0), (a1), (0), RF, RF, H', ⟨Nat.le_refl _⟩, ⟨rZr HO0⟩, ⟨by repeat (first | (with_reducible first | exact HK.out | apply Kept.alloc | apply Kept.drewN | apply Kept.drew) | exact HK.out)⟩, ⟨BB⟩⟩
 case round =>
  clear H'
  try clear p2
  obtain ⟨x0_1, x1_1, x5_1, rfl, rfl, HA, HK1, HO_0, HK, HB⟩ := hrel
  cases gk with
  | zero => exact absurd HA.out (by simp [laws_markStepS.l0])
  | succ k1 =>
   have H := HA.out
   clear HA
   simp only [laws_markStepS.l0] at H
   by_cases c3 : x5_1 < (x0_1.length : Int)
   ·rw [if_pos c3] at H
    have c3b0 := decide_eq_true c3
    clear c3
    by_cases c4 : 0 ≤ x5_1
    ·rw [if_pos c4] at H
     have c4b0 := decide_eq_true c4
     clear c4
     obtain ⟨y363, Ny363⟩ : ∃ y_ : List (S100), Aside0 (y_ = (x0_1.set (x5_1 : Int).toNat (⟨x1_1, (rd_T100 x0_1 x5_1).f1, (rd_T100 x0_1 x5_1).f2, (rd_T100 x0_1 x5_1).f3⟩ : S100))) := ⟨_, ⟨rfl⟩⟩
     rw [← Ny363.out] at H
     (try rw [Option.bind_some] at H)
     obtain ⟨y364, Ny364⟩ : ∃ y_ : List (S100), Aside0 (y_ = (y363.set (x5_1 : Int).toNat (⟨(rd_T100 y363 x5_1).f0, wrap64 (x1_1 + 1), (rd_T100 y363 x5_1).f2, (rd_T100 y363 x5_1).f3⟩ : S100))) := ⟨_, ⟨rfl⟩⟩
     rw [← Ny364.out] at H
     (try rw [Option.bind_some] at H)
     obtain ⟨y365, Ny365⟩ : ∃ y_ : List (S100), Aside0 (y_ = (y364.set (x5_1 : Int).toNat (⟨(rd_T100 y364 x5_1).f0, (rd_T100 y364 x5_1).f1, wrap64 ((wrap64 (x1_1 + 1)) + 1), (rd_T100 y364 x5_1).f3⟩ : S100))) := ⟨_, ⟨rfl⟩⟩
     rw [← Ny365.out] at H
     (try rw [Option.bind_some] at H)
     obtain ⟨y366, Ny366⟩ : ∃ y_ : List (S100), Aside0 (y_ = (y365.set (x5_1 : Int).toNat (⟨(rd_T100 y365 x5_1).f0, (rd_T100 y365 x5_1).f1, (rd_T100 y365 x5_1).f2, wrap64 ((wrap64 ((wrap64 (x1_1 + 1)) + 1)) + 1)⟩ : S100))) := ⟨_, ⟨rfl⟩⟩
     rw [← Ny366.out] at H
     (try rw [Option.bind_some] at H)
     have H' := Aside0.mk H
     clear H
     obtain ⟨Ao9, co9, eo9⟩ := Kd.R_slice HO_0.out
     subst eo9
     have p5 : 0 ≤ (x5_1 : Int) := odt
     have q5 : (x5_1 : Int) < ((x0_1.length : Int) : Int) := odt
     obtain ⟨go5, co5, eo5, gb5, gl5, cl5, HG5⟩ := Kd.R_form HO_0.out (by omega)
     (first | cases eo5 | (injection eo5 with ea_ en_ ec_; (first | subst ea_ | (injection ea_ with ea_; subst ea_)); subst ec_; clear en_))
     have GB5 := Aside0.mk gb5
     have GG5 := Aside0.mk HG5
     clear gb5 gl5 HG5
     have HMgo5 := Aside0.mk (show (P0_ go5 ∨ w.heap.size ≤ go5) from (HO_0.out.1 _ rfl))
     obtain ⟨ce5, hcl5, hM5, hcc5, hfr5⟩ := Kd.R_elem HO_0.out z100 (x5_1 : Int) p5 q5
     obtain rfl := k100_openM hM5
     have hx5_0 : wr.cell? ⟨go5, (x5_1 : Int).toNat * 4, none⟩ = some (.int .i64 ((rd_T100 x0_1 x5_1).f0)) := hcc5 0 _ rfl
     have hx5_1 : wr.cell? ⟨go5, (x5_1 : Int).toNat * 4 + 1, none⟩ = some (.int .i64 ((rd_T100 x0_1 x5_1).f1)) := hcc5 1 _ rfl
     have hx5_2 : wr.cell? ⟨go5, (x5_1 : Int).toNat * 4 + 2, none⟩ = some (.int .i64 ((rd_T100 x0_1 x5_1).f2)) := hcc5 2 _ rfl
     have hx5_3 : wr.cell? ⟨go5, (x5_1 : Int).toNat * 4 + 3, none⟩ = some (.int .i64 ((rd_T100 x0_1 x5_1).f3)) := hcc5 3 _ rfl
     have hf5_0 : wr.frozen? ⟨go5, (x5_1 : Int).toNat * 4, none⟩ = false := hfr5 0
     have hf5_1 : wr.frozen? ⟨go5, (x5_1 : Int).toNat * 4 + 1, none⟩ = false := hfr5 1
     have hf5_2 : wr.frozen? ⟨go5, (x5_1 : Int).toNat * 4 + 2, none⟩ = false := hfr5 2
     have hf5_3 : wr.frozen? ⟨go5, (x5_1 : Int).toNat * 4 + 3, none⟩ = false := hfr5 3
     clear hcl5 hcc5 hfr5 hM5
     replace p5 := eq_true p5
     replace q5 := eq_true q5
     have HX10 := Aside0.mk (show Kd.R k100 100 wr w0.heap.size (fun k_ => (P0_ k_ ∨ w.heap.size ≤ k_)) (.slice (some ⟨go5, 0, none⟩) x0_1.length co9) x0_1 from (rZr HO_0))
     obtain ⟨ce10, hcl10, hM10, hcc10, hfr10⟩ := Kd.R_elem HX10.out z100 (x5_1 : Int) (odt) (by have h_ : (x5_1 : Int) < ((x0_1.length : Int) : Int) := odt; first | exact h_ | (have e_ := (Kd.R_reads' HO_0.out).1; omega) | simpa using h_)
     obtain rfl := k100_openM hM10
     have HP10 := Kd.R_seg HX10.out (x5_1 : Int) (odt) (by have h_ : (x5_1 : Int) < ((x0_1.length : Int) : Int) := odt; first | exact h_ | (have e_ := (Kd.R_reads' HO_0.out).1; omega) | simpa using h_) (seg := [.int .i64 x1_1]) (j := 0) hcl10 hcc10 (show 1 ≤ 4 from by decide) (x' := (⟨x1_1, (rd_T100 x0_1 x5_1).f1, (rd_T100 x0_1 x5_1).f2, (rd_T100 x0_1 x5_1).f3⟩ : S100)) (k100_mkM _ _ _ (⟨x1_1, (rd_T100 x0_1 x5_1).f1, (rd_T100 x0_1 x5_1).f2, (rd_T100 x0_1 x5_1).f3⟩ : S100) ) (fun _ hk => hk)
     have hx10_0 := hcc10 0 _ rfl
     (try simp only [show (k100).sz = 4 from rfl, Nat.mul_one, Nat.add_zero] at hx10_0)
     have hf10_0 := hfr10 0
     (try simp only [show (k100).sz = 4 from rfl, Nat.mul_one, Nat.add_zero] at hf10_0)
     clear hcl10 hcc10 hfr10 hM10
     go_wp2_with (first | ((with_reducible refine gate_store (t := 3) (p := 16) rfl ?_); refine store_event (t := 3) (p := 16) (v := ?vo_w11) (w1 := (wr.setCell ⟨go5, (x5_1 : Int).toNat * 4, none⟩ (.int .i64 x1_1))) ?hg ?ho ?hn ?hr ?_; (case ho => rfl); (case hg => rfl); (case hn => rfl); (case hr => first | (go_simp; done) | (go_simp; rfl)); intro w11 hw; have hg : wr.grownBy w11 (some go5) := (by rw [hw]; exact HP10.2); have hp_ : Kd.R k100 100 w11 w0.heap.size (fun k_ => (P0_ k_ ∨ w.heap.size ≤ k_)) (.slice (some ⟨go5, 0, none⟩) x0_1.length co9) y363 := (by rw [hw, Ny363.out]; exact HP10.1); clear HP10; replace HB := Aside0.mk ((by rw [hw]; exact below_set (HB.out) GB5.out : Below w0.heap.size w0 w11)); replace HK := Aside0.mk (Kept.of_grown (S := (fun k_ => P0_ k_)) hg (by repeat (first | (with_reducible first | exact HK.out | apply Kept.alloc | apply Kept.drewN | apply Kept.drew) | exact HK.out)) (fun k_ e_ => (HO_0.out.1 k_ e_))); replace HO_0 := Aside0.mk (hp_); clear hg hw hp_; have p6 : 0 ≤ (x5_1 : Int) := odt; have q6 : (x5_1 : Int) < ((x0_1.length : Int) : Int) := odt; obtain ⟨ce6, hcl6, hM6, hcc6, hfr6⟩ := Kd.R_elem HO_0.out z100 (x5_1 : Int) p6 q6; obtain rfl := k100_openM hM6; have hx6_0 : w11.cell? ⟨go5, (x5_1 : Int).toNat * 4, none⟩ = some (.int .i64 ((rd_T100 y363 x5_1).f0)) := hcc6 0 _ rfl; have hx6_1 : w11.cell? ⟨go5, (x5_1 : Int).toNat * 4 + 1, none⟩ = some (.int .i64 ((rd_T100 y363 x5_1).f1)) := hcc6 1 _ rfl; have hx6_2 : w11.cell? ⟨go5, (x5_1 : Int).toNat * 4 + 2, none⟩ = some (.int .i64 ((rd_T100 y363 x5_1).f2)) := hcc6 2 _ rfl; have hx6_3 : w11.cell? ⟨go5, (x5_1 : Int).toNat * 4 + 3, none⟩ = some (.int .i64 ((rd_T100 y363 x5_1).f3)) := hcc6 3 _ rfl; have hf6_0 : w11.frozen? ⟨go5, (x5_1 : Int).toNat * 4, none⟩ = false := hfr6 0; have hf6_1 : w11.frozen? ⟨go5, (x5_1 : Int).toNat * 4 + 1, none⟩ = false := hfr6 1; have hf6_2 : w11.frozen? ⟨go5, (x5_1 : Int).toNat * 4 + 2, none⟩ = false := hfr6 2; have hf6_3 : w11.frozen? ⟨go5, (x5_1 : Int).toNat * 4 + 3, none⟩ = false := hfr6 3; clear hcl6 hcc6 hfr6 hM6; replace p6 := eq_true p6; replace q6 := eq_true q6; have HX12 := Aside0.mk (show Kd.R k100 100 w11 w0.heap.size (fun k_ => (P0_ k_ ∨ w.heap.size ≤ k_)) (.slice (some ⟨go5, 0, none⟩) x0_1.length co9) y363 from (rZr HO_0)); obtain ⟨ce12, hcl12, hM12, hcc12, hfr12⟩ := Kd.R_elem HX12.out z100 (x5_1 : Int) (odt) (by have h_ : (x5_1 : Int) < ((x0_1.length : Int) : Int) := odt; first | exact h_ | (have e_ := (Kd.R_reads' HO_0.out).1; omega) | simpa using h_); obtain rfl := k100_openM hM12; have HP12 := Kd.R_seg HX12.out (x5_1 : Int) (odt) (by have h_ : (x5_1 : Int) < ((x0_1.length : Int) : Int) := odt; first | exact h_ | (have e_ := (Kd.R_reads' HO_0.out).1; omega) | simpa using h_) (seg := [.int .i64 (wrap64 (x1_1 + 1))]) (j := 1) hcl12 hcc12 (show 2 ≤ 4 from by decide) (x' := (⟨(rd_T100 y363 x5_1).f0, wrap64 (x1_1 + 1), (rd_T100 y363 x5_1).f2, (rd_T100 y363 x5_1).f3⟩ : S100)) (k100_mkM _ _ _ (⟨(rd_T100 y363 x5_1).f0, wrap64 (x1_1 + 1), (rd_T100 y363 x5_1).f2, (rd_T100 y363 x5_1).f3⟩ : S100) ) (fun _ hk => hk); have hx12_1 := hcc12 1 _ rfl; (try simp only [show (k100).sz = 4 from rfl, Nat.mul_one, Nat.add_zero] at hx12_1); have hf12_1 := hfr12 1; (try simp only [show (k100).sz = 4 from rfl, Nat.mul_one, Nat.add_zero] at hf12_1); clear hcl12 hcc12 hfr12 hM12) | ((with_reducible refine gate_store (t := 3) (p := 23) rfl ?_); refine store_event (t := 3) (p := 23) (v := ?vo_w13) (w1 := (w11.setCell ⟨go5, (x5_1 : Int).toNat * 4 + 1, none⟩ (.int .i64 (wrap64 (x1_1 + 1))))) ?hg ?ho ?hn ?hr ?_; (case ho => rfl); (case hg => rfl); (case hn => rfl); (case hr => first | (go_simp; done) | (go_simp; rfl)); intro w13 hw; have hg : w11.grownBy w13 (some go5) := (by rw [hw]; exact HP12.2); have hp_ : Kd.R k100 100 w13 w0.heap.size (fun k_ => (P0_ k_ ∨ w.heap.size ≤ k_)) (.slice (some ⟨go5, 0, none⟩) x0_1.length co9) y364 := (by rw [hw, Ny364.out]; exact HP12.1); clear HP12; replace HB := Aside0.mk ((by rw [hw]; exact below_set (HB.out) GB5.out : Below w0.heap.size w0 w13)); replace HK := Aside0.mk (Kept.of_grown (S := (fun k_ => P0_ k_)) hg (by repeat (first | (with_reducible first | exact HK.out | apply Kept.alloc | apply Kept.drewN | apply Kept.drew) | exact HK.out)) (fun k_ e_ => (HO_0.out.1 k_ e_))); replace HO_0 := Aside0.mk (hp_); clear hg hw hp_; have p7 : 0 ≤ (x5_1 : Int) := odt; have q7 : (x5_1 : Int) < ((x0_1.length : Int) : Int) := odt; obtain ⟨ce7, hcl7, hM7, hcc7, hfr7⟩ := Kd.R_elem HO_0.out z100 (x5_1 : Int) p7 q7; obtain rfl := k100_openM hM7; have hx7_0 : w13.cell? ⟨go5, (x5_1 : Int).toNat * 4, none⟩ = some (.int .i64 ((rd_T100 y364 x5_1).f0)) := hcc7 0 _ rfl; have hx7_1 : w13.cell? ⟨go5, (x5_1 : Int).toNat * 4 + 1, none⟩ = some (.int .i64 ((rd_T100 y364 x5_1).f1)) := hcc7 1 _ rfl; have hx7_2 : w13.cell? ⟨go5, (x5_1 : Int).toNat * 4 + 2, none⟩ = some (.int .i64 ((rd_T100 y364 x5_1).f2)) := hcc7 2 _ rfl; have hx7_3 : w13.cell? ⟨go5, (x5_1 : Int).toNat * 4 + 3, none⟩ = some (.int .i64 ((rd_T100 y364 x5_1).f3)) := hcc7 3 _ rfl; have hf7_0 : w13.frozen? ⟨go5, (x5_1 : Int).toNat * 4, none⟩ = false := hfr7 0; have hf7_1 : w13.frozen? ⟨go5, (x5_1 : Int).toNat * 4 + 1, none⟩ = false := hfr7 1; have hf7_2 : w13.frozen? ⟨go5, (x5_1 : Int).toNat * 4 + 2, none⟩ = false := hfr7 2; have hf7_3 : w13.frozen? ⟨go5, (x5_1 : Int).toNat * 4 + 3, none⟩ = false := hfr7 3; clear hcl7 hcc7 hfr7 hM7; replace p7 := eq_true p7; replace q7 := eq_true q7; have HX14 := Aside0.mk (show Kd.R k100 100 w13 w0.heap.size (fun k_ => (P0_ k_ ∨ w.heap.size ≤ k_)) (.slice (some ⟨go5, 0, none⟩) x0_1.length co9) y364 from (rZr HO_0)); obtain ⟨ce14, hcl14, hM14, hcc14, hfr14⟩ := Kd.R_elem HX14.out z100 (x5_1 : Int) (odt) (by have h_ : (x5_1 : Int) < ((x0_1.length : Int) : Int) := odt; first | exact h_ | (have e_ := (Kd.R_reads' HO_0.out).1; omega) | simpa using h_); obtain rfl := k100_openM hM14; have HP14 := Kd.R_seg HX14.out (x5_1 : Int) (odt) (by have h_ : (x5_1 : Int) < ((x0_1.length : Int) : Int) := odt; first | exact h_ | (have e_ := (Kd.R_reads' HO_0.out).1; omega) | simpa using h_) (seg := [.int .i64 (wrap64 ((wrap64 (x1_1 + 1)) + 1))]) (j := 2) hcl14 hcc14 (show 3 ≤ 4 from by decide) (x' := (⟨(rd_T100 y364 x5_1).f0, (rd_T100 y364 x5_1).f1, wrap64 ((wrap64 (x1_1 + 1)) + 1), (rd_T100 y364 x5_1).f3⟩ : S100)) (k100_mkM _ _ _ (⟨(rd_T100 y364 x5_1).f0, (rd_T100 y364 x5_1).f1, wrap64 ((wrap64 (x1_1 + 1)) + 1), (rd_T100 y364 x5_1).f3⟩ : S100) ) (fun _ hk => hk); have hx14_2 := hcc14 2 _ rfl; (try simp only [show (k100).sz = 4 from rfl, Nat.mul_one, Nat.add_zero] at hx14_2); have hf14_2 := hfr14 2; (try simp only [show (k100).sz = 4 from rfl, Nat.mul_one, Nat.add_zero] at hf14_2); clear hcl14 hcc14 hfr14 hM14) | ((with_reducible refine gate_store (t := 3) (p := 30) rfl ?_); refine store_event (t := 3) (p := 30) (v := ?vo_w15) (w1 := (w13.setCell ⟨go5, (x5_1 : Int).toNat * 4 + 2, none⟩ (.int .i64 (wrap64 ((wrap64 (x1_1 + 1)) + 1))))) ?hg ?ho ?hn ?hr ?_; (case ho => rfl); (case hg => rfl); (case hn => rfl); (case hr => first | (go_simp; done) | (go_simp; rfl)); intro w15 hw; have hg : w13.grownBy w15 (some go5) := (by rw [hw]; exact HP14.2); have hp_ : Kd.R k100 100 w15 w0.heap.size (fun k_ => (P0_ k_ ∨ w.heap.size ≤ k_)) (.slice (some ⟨go5, 0, none⟩) x0_1.length co9) y365 := (by rw [hw, Ny365.out]; exact HP14.1); clear HP14; replace HB := Aside0.mk ((by rw [hw]; exact below_set (HB.out) GB5.out : Below w0.heap.size w0 w15)); replace HK := Aside0.mk (Kept.of_grown (S := (fun k_ => P0_ k_)) hg (by repeat (first | (with_reducible first | exact HK.out | apply Kept.alloc | apply Kept.drewN | apply Kept.drew) | exact HK.out)) (fun k_ e_ => (HO_0.out.1 k_ e_))); replace HO_0 := Aside0.mk (hp_); clear hg hw hp_; have p8 : 0 ≤ (x5_1 : Int) := odt; have q8 : (x5_1 : Int) < ((x0_1.length : Int) : Int) := odt; obtain ⟨ce8, hcl8, hM8, hcc8, hfr8⟩ := Kd.R_elem HO_0.out z100 (x5_1 : Int) p8 q8; obtain rfl := k100_openM hM8; have hx8_0 : w15.cell? ⟨go5, (x5_1 : Int).toNat * 4, none⟩ = some (.int .i64 ((rd_T100 y365 x5_1).f0)) := hcc8 0 _ rfl; have hx8_1 : w15.cell? ⟨go5, (x5_1 : Int).toNat * 4 + 1, none⟩ = some (.int .i64 ((rd_T100 y365 x5_1).f1)) := hcc8 1 _ rfl; have hx8_2 : w15.cell? ⟨go5, (x5_1 : Int).toNat * 4 + 2, none⟩ = some (.int .i64 ((rd_T100 y365 x5_1).f2)) := hcc8 2 _ rfl; have hx8_3 : w15.cell? ⟨go5, (x5_1 : Int).toNat * 4 + 3, none⟩ = some (.int .i64 ((rd_T100 y365 x5_1).f3)) := hcc8 3 _ rfl; have hf8_0 : w15.frozen? ⟨go5, (x5_1 : Int).toNat * 4, none⟩ = false := hfr8 0; have hf8_1 : w15.frozen? ⟨go5, (x5_1 : Int).toNat * 4 + 1, none⟩ = false := hfr8 1; have hf8_2 : w15.frozen? ⟨go5, (x5_1 : Int).toNat * 4 + 2, none⟩ = false := hfr8 2; have hf8_3 : w15.frozen? ⟨go5, (x5_1 : Int).toNat * 4 + 3, none⟩ = false := hfr8 3; clear hcl8 hcc8 hfr8 hM8; replace p8 := eq_true p8; replace q8 := eq_true q8; have HX16 := Aside0.mk (show Kd.R k100 100 w15 w0.heap.size (fun k_ => (P0_ k_ ∨ w.heap.size ≤ k_)) (.slice (some ⟨go5, 0, none⟩) x0_1.length co9) y365 from (rZr HO_0)); obtain ⟨ce16, hcl16, hM16, hcc16, hfr16⟩ := Kd.R_elem HX16.out z100 (x5_1 : Int) (odt) (by have h_ : (x5_1 : Int) < ((x0_1.length : Int) : Int) := odt; first | exact h_ | (have e_ := (Kd.R_reads' HO_0.out).1; omega) | simpa using h_); obtain rfl := k100_openM hM16; have HP16 := Kd.R_seg HX16.out (x5_1 : Int) (odt) (by have h_ : (x5_1 : Int) < ((x0_1.length : Int) : Int) := odt; first | exact h_ | (have e_ := (Kd.R_reads' HO_0.out).1; omega) | simpa using h_) (seg := [.int .i64 (wrap64 ((wrap64 ((wrap64 (x1_1 + 1)) + 1)) + 1))]) (j := 3) hcl16 hcc16 (show 4 ≤ 4 from by decide) (x' := (⟨(rd_T100 y365 x5_1).f0, (rd_T100 y365 x5_1).f1, (rd_T100 y365 x5_1).f2, wrap64 ((wrap64 ((wrap64 (x1_1 + 1)) + 1)) + 1)⟩ : S100)) (k100_mkM _ _ _ (⟨(rd_T100 y365 x5_1).f0, (rd_T100 y365 x5_1).f1, (rd_T100 y365 x5_1).f2, wrap64 ((wrap64 ((wrap64 (x1_1 + 1)) + 1)) + 1)⟩ : S100) ) (fun _ hk => hk); have hx16_3 := hcc16 3 _ rfl; (try simp only [show (k100).sz = 4 from rfl, Nat.mul_one, Nat.add_zero] at hx16_3); have hf16_3 := hfr16 3; (try simp only [show (k100).sz = 4 from rfl, Nat.mul_one, Nat.add_zero] at hf16_3); clear hcl16 hcc16 hfr16 hM16) | ((with_reducible refine gate_store (t := 3) (p := 37) rfl ?_); refine store_event (t := 3) (p := 37) (v := ?vo_w17) (w1 := (w15.setCell ⟨go5, (x5_1 : Int).toNat * 4 + 3, none⟩ (.int .i64 (wrap64 ((wrap64 ((wrap64 (x1_1 + 1)) + 1)) + 1))))) ?hg ?ho ?hn ?hr ?_; (case ho => rfl); (case hg => rfl); (case hn => rfl); (case hr => first | (go_simp; done) | (go_simp; rfl)); intro w17 hw; have hg : w15.grownBy w17 (some go5) := (by rw [hw]; exact HP16.2); have hp_ : Kd.R k100 100 w17 w0.heap.size (fun k_ => (P0_ k_ ∨ w.heap.size ≤ k_)) (.slice (some ⟨go5, 0, none⟩) x0_1.length co9) y366 := (by rw [hw, Ny366.out]; exact HP16.1); clear HP16; replace HB := Aside0.mk ((by rw [hw]; exact below_set (HB.out) GB5.out : Below w0.heap.size w0 w17)); replace HK := Aside0.mk (Kept.of_grown (S := (fun k_ => P0_ k_)) hg (by repeat (first | (with_reducible first | exact HK.out | apply Kept.alloc | apply Kept.drewN | apply Kept.drew) | exact HK.out)) (fun k_ e_ => (HO_0.out.1 k_ e_))); replace HO_0 := Aside0.mk (hp_); clear hg hw hp_))
     go_roundg k1
     case measure => have := HK1.out; omega
     case rel => exact ⟨(y366), (wrap64 ((wrap64 ((wrap64 ((wrap64 (x1_1 + 1)) + 1)) + 1)) + 1)), (wrap64 (x5_1 + 1)), RF, RF, H', ⟨by have := HK1.out; omega⟩, ⟨rZr HO_0⟩, ⟨by repeat (first | (with_reducible first | exact HK.out | apply Kept.alloc | apply Kept.drewN | apply Kept.drew) | exact HK.out)⟩, ⟨BB⟩⟩
    ·rw [if_neg c4] at H
     exact absurd H (by simp)
   ·rw [if_neg c3] at H
    have c3b0 := decide_eq_false c3
    clear c3
    simp only [Option.some.injEq, Prod.mk.injEq] at H
    obtain ⟨rfl, rfl⟩ := H
    obtain ⟨Ao18, co18, eo18⟩ := Kd.R_slice HO_0.out
    subst eo18
    go_wp2
    go_ret
    exact ⟨EV, by (with_reducible repeat (first | apply Kd.R_alloc | apply Kd.R_drewN | apply Kd.R_drew)); exact HO_0.out, BB, by repeat (first | (with_reducible first | exact HK.out | apply Kept.alloc | apply Kept.drewN | apply Kept.drew) | exact HK.out)⟩
end Go.Proofs.Ytpbhoembdoofiaa.B
namespace Go.Proofs.Ytpbhoembdoofiaa.B
open Go.RowKit Go.Proofs.YtpbhoembdoofiaaW.PrintWords Go.Proofs.YtpbhoembdoofiaaW.PrintLast Go.Proofs.YtpbhoembdoofiaaW.PrintMore Go.Proofs.YtpbhoembdoofiaaW.Zc
set_option linter.unusedVariables false
set_option linter.unusedSimpArgs false
def laws_markEntryS.e (x : Int) : S61 := ⟨⟨x, wrap64 (x + 1)⟩, wrap64 (wrap64 (x + 1) + 1), wrap64 (wrap64 (wrap64 (x + 1) + 1) + 1)⟩
def laws_markEntryS.go : Nat → List (S61) → Int → Nat → Int × List (S61)
  | 0, l, x, _ => (x, l)
  | n + 1, l, x, i => laws_markEntryS.go n (l.set i (laws_markEntryS.e x)) (wrap64 (wrap64 (wrap64 (wrap64 (x + 1) + 1) + 1) + 1)) (i + 1)
def laws_markEntryS.f (l0 : List (S61)) (a1 : Int) : Option (Int × (List (S61))) := some (laws_markEntryS.go l0.length l0 a1 0)
set_option maxHeartbeats 4000000 in
set_option maxRecDepth 100000 in
theorem laws_markEntryS.calls (P0_ : Nat → Prop) (u9000_ : Value) (l0 : List (S61)) (a1 : Int) (r1 : Int) (r2 : List (S61)) (w0 w : World) (hB : Below w0.heap.size w0 w) (ho0 : Kd.R k61 61 w w0.heap.size P0_ u9000_ l0) (h : laws_markEntryS.f l0 a1 = some (r1, r2)) :
    Calls Try.prog 34 #[u9000_, .int .i64 a1] w fun e w' => e = .returned (.int .i64 r1) ∧ Kd.R k61 61 w' w0.heap.size (fun k_ => (P0_ k_ ∨ w.heap.size ≤ k_)) u9000_ r2 ∧ Below w0.heap.size w0 w' ∧ Kept w w' (fun k_ => P0_ k_) := by
  obtain ⟨Ao, co, eo⟩ := Kd.R_slice ho0
  subst eo
  have hlen : l0.length ≤ 9223372036854775807 := (Kd.R_reads' ho0).2.2.2.1
  have HO := Aside0.mk (show Kd.R k61 61 w w0.heap.size (fun k_ => (P0_ k_ ∨ w.heap.size ≤ k_)) (.slice Ao l0.length co) l0 from Kd.R_mono ho0 (fun k_ hk => (.inl hk)))
  have HK := Aside0.mk (Kept.refl w (fun k_ => P0_ k_))
  have HB := Aside0.mk hB
  have HP := Aside0.mk (Option.some.inj h)
  have hu1 := Try.underlying61
  have hu2 := Try.underlying41
  clear hB h ho0
  go_enter Try.func34, Try.ntmps34
  go_wp2
  go_loopw [1, 5] (fun v1 i w' => ∃ (k : Nat) (x : Int) (xs : List (S61)), k ≤ l0.length ∧ v1 = .int .i64 x ∧ i = .int .i64 k ∧ Aside0 (xs.length = l0.length) ∧ Aside0 (laws_markEntryS.go (l0.length - k) xs x k = (r1, r2)) ∧ Aside0 (Kd.R k61 61 w' w0.heap.size (fun k_ => (P0_ k_ ∨ w.heap.size ≤ k_)) (.slice Ao l0.length co) xs) ∧ Aside0 (Kept w w' (fun k_ => P0_ k_)) ∧ Aside0 (Below w0.heap.size w0 w')) (fun _ i _ => l0.length - (intOf i).toNat)
  case atStart => exact ⟨0, a1, l0, Nat.zero_le _, rfl, rfl, ⟨rfl⟩, HP, HO, HK, HB⟩
  case round =>
    clear HO HK HB HP
    obtain ⟨k, x, xs, hk, rfl, rfl, HL, HP, HO, HK, HB⟩ := hrel
    by_cases hlt : k < l0.length
    · obtain ⟨go5, co5, eo5, gb5, gl5, cl5, HG5⟩ := Kd.R_form HO.out (by have := HL.out; omega)
      injection eo5 with ea_ en_ ec_
      subst ea_
      subst ec_
      clear en_
      have GB5 := Aside0.mk gb5
      have GL5 := Aside0.mk gl5
      clear gb5 gl5 HG5
      have HMgo5 := Aside0.mk (show (P0_ go5 ∨ w.heap.size ≤ go5) from (HO.out.1 _ rfl))
      obtain ⟨ce5, hcl5, hM5, hcc5, hfr5⟩ := Kd.R_elem HO.out z61 (k : Int) (by omega) (by have := HL.out; omega)
      obtain rfl := k61_openM hM5
      have x0 := hcc5 0 _ rfl
      have x1 := hcc5 1 _ rfl
      have x2 := hcc5 2 _ rfl
      have x3 := hcc5 3 _ rfl
      have f0 := hfr5 0
      have f1 := hfr5 1
      have f2 := hfr5 2
      have f3 := hfr5 3
      simp only [show (k61).sz = 4 from rfl, Nat.add_zero, Int.toNat_natCast] at x0 x1 x2 x3 f0 f1 f2 f3
      have HS := Aside0.mk (Kd.R_seg HO.out (k : Int) (by omega) (by have := HL.out; omega) (seg := [.int .i64 x, .int .i64 (wrap64 (x + 1)), .int .i64 (wrap64 (wrap64 (x + 1) + 1)), .int .i64 (wrap64 (wrap64 (wrap64 (x + 1) + 1) + 1))]) (j := 0) hcl5 hcc5 (show 4 ≤ 4 from by decide) (x' := laws_markEntryS.e x) (k61_mkM _ _ _ (laws_markEntryS.e x)) (fun _ hk => hk))
      clear hcl5 hM5 hcc5 hfr5
      go_wp2
      go_roundw
      case rel =>
        have hm : l0.length - k = (l0.length - (k + 1)) + 1 := by omega
        refine ⟨k + 1, _, xs.set k (laws_markEntryS.e x), by omega, rfl, by go_num, ⟨by rw [List.length_set]; exact HL.out⟩, ⟨?_⟩, ⟨?_⟩, ⟨?_⟩, ⟨?_⟩⟩
        · rw [← HP.out, hm]; rfl
        · exact HS.out.1
        · exact Kept.of_grown HS.out.2 HK.out (fun k_ e_ => HO.out.1 k_ e_)
        · exact BB
      case measure => simp [intOf]; omega
    · have hz : k = l0.length := by omega
      have HZ := Aside0.mk hz
      clear hz
      go_wp2
      go_ret
      have h1 := HP.out
      rw [HZ.out, Nat.sub_self] at h1
      obtain ⟨e1, e2⟩ := Prod.mk.inj h1
      subst e1
      subst e2
      exact ⟨rfl, HO.out, HB.out, HK.out⟩
end Go.Proofs.Ytpbhoembdoofiaa.B
namespace Go.Proofs.Ytpbhoembdoofiaa.B
open Go.RowKit Go.Proofs.YtpbhoembdoofiaaW.PrintWords Go.Proofs.YtpbhoembdoofiaaW.PrintLast Go.Proofs.YtpbhoembdoofiaaW.PrintMore Go.Proofs.YtpbhoembdoofiaaW.Zc
set_option linter.unusedVariables false
set_option linter.unusedSimpArgs false
def laws_heldStepS.l0 : Nat → List (S100) → Int → Int → Option (Int)
  | 0, _, _, _ => none
  | k + 1, x0, x1, x5 => if x5 < (x0.length : Int) then (if 0 ≤ x5 then (if ((rd_T100 x0 x5).f0) = x1 then (if ((rd_T100 x0 x5).f1) = (wrap64 (x1 + 1)) then (if ((rd_T100 x0 x5).f2) = (wrap64 ((wrap64 (x1 + 1)) + 1)) then (if ((rd_T100 x0 x5).f3) = (wrap64 ((wrap64 ((wrap64 (x1 + 1)) + 1)) + 1)) then (laws_heldStepS.l0 k x0 (wrap64 ((wrap64 ((wrap64 ((wrap64 (x1 + 1)) + 1)) + 1)) + 1)) (wrap64 (x5 + 1))) else (some (-1))) else (some (-1))) else (some (-1))) else (some (-1))) else (none)) else (some x1)
def laws_heldStepS.f (k : Nat) (l0 : List (S100)) (a1 : Int) : Option (Int) := laws_heldStepS.l0 k l0 a1 0
set_option maxHeartbeats 8000000 in
set_option maxRecDepth 100000 in
theorem laws_heldStepS.calls (k : Nat) (A0 : Option Addr) (c0 : Nat) (l0 : List (S100)) (a1 : Int) (r : Int) (w : World) (hr0 : Kd.C k100 w A0 l0.length l0) (hc0 : l0.length ≤ c0) (h : laws_heldStepS.f k l0 a1 = some r) :
    Calls Try.prog 64 #[.slice A0 l0.length c0, .int .i64 a1] w fun e w' => e = .returned (.int .i64 r) ∧ Drawn0 w w' := by
 have HR0 := Aside0.mk hr0
 have HC0 := Aside0.mk hc0
 clear hr0 hc0
 have H : (laws_heldStepS.l0 k l0 a1 0) = some r := h
 clear h
 have H' := Aside0.mk H
 clear H
 go_enter Try.func64, Try.ntmps64
 go_wp2
 go_loopg [1, 5] k (fun kq v1 v5 w' => ∃ (x1_1 : Int) (x5_1 : Int), v1 = .int .i64 x1_1 ∧ v5 = .int .i64 x5_1 ∧ Aside0 (laws_heldStepS.l0 kq l0 x1_1 x5_1 = some r) ∧ Aside0 (kq ≤ k) ∧ Drawn0 w w')
 case atStart => exact ⟨(a1), (0), RF, RF, H', ⟨Nat.le_refl _⟩, DR⟩
 case round =>
  clear H'
  try clear p2
  obtain ⟨x1_1, x5_1, rfl, rfl, HA, HK1, ⟨m1, rfl⟩⟩ := hrel
  cases gk with
  | zero => exact absurd HA.out (by simp [laws_heldStepS.l0])
  | succ k1 =>
   have H := HA.out
   clear HA
   simp only [laws_heldStepS.l0] at H
   by_cases c3 : x5_1 < (l0.length : Int)
   ·rw [if_pos c3] at H
    have c3b0 := decide_eq_true c3
    clear c3
    by_cases c4 : 0 ≤ x5_1
    ·rw [if_pos c4] at H
     have c4b0 := decide_eq_true c4
     clear c4
     by_cases c5 : ((rd_T100 l0 x5_1).f0) = x1_1
     ·rw [if_pos c5] at H
      have c5b0 := beqT c5
      have c5b1 := bneF c5
      clear c5
      by_cases c6 : ((rd_T100 l0 x5_1).f1) = (wrap64 (x1_1 + 1))
      ·rw [if_pos c6] at H
       have c6b0 := beqT c6
       have c6b1 := bneF c6
       clear c6
       by_cases c7 : ((rd_T100 l0 x5_1).f2) = (wrap64 ((wrap64 (x1_1 + 1)) + 1))
       ·rw [if_pos c7] at H
        have c7b0 := beqT c7
        have c7b1 := bneF c7
        clear c7
        by_cases c8 : ((rd_T100 l0 x5_1).f3) = (wrap64 ((wrap64 ((wrap64 (x1_1 + 1)) + 1)) + 1))
        ·rw [if_pos c8] at H
         have c8b0 := beqT c8
         have c8b1 := bneF c8
         clear c8
         have H' := Aside0.mk H
         clear H
         have p379 : 0 ≤ (x5_1 : Int) := odt
         have q379 : x5_1 < (l0.length : Int) := odt
         obtain ⟨ad379, e379, hx379_0, hx379_1, hx379_2, hx379_3⟩ := at_T100 HR0.out x5_1 p379 q379
         cases e379
         replace p379 := eq_true p379
         replace q379 := eq_true q379
         have p380 : 0 ≤ (x5_1 : Int) := odt
         have q380 : x5_1 < (l0.length : Int) := odt
         obtain ⟨ad380, e380, hx380_0, hx380_1, hx380_2, hx380_3⟩ := at_T100 HR0.out x5_1 p380 q380
         obtain rfl : ad379 = ad380 := (by injection e380)
         replace p380 := eq_true p380
         replace q380 := eq_true q380
         have p381 : 0 ≤ (x5_1 : Int) := odt
         have q381 : x5_1 < (l0.length : Int) := odt
         obtain ⟨ad381, e381, hx381_0, hx381_1, hx381_2, hx381_3⟩ := at_T100 HR0.out x5_1 p381 q381
         obtain rfl : ad379 = ad381 := (by injection e381)
         replace p381 := eq_true p381
         replace q381 := eq_true q381
         have p382 : 0 ≤ (x5_1 : Int) := odt
         have q382 : x5_1 < (l0.length : Int) := odt
         obtain ⟨ad382, e382, hx382_0, hx382_1, hx382_2, hx382_3⟩ := at_T100 HR0.out x5_1 p382 q382
         obtain rfl : ad379 = ad382 := (by injection e382)
         replace p382 := eq_true p382
         replace q382 := eq_true q382
         go_wp2
         go_roundg k1
         case measure => have := HK1.out; omega
         case rel => exact ⟨(wrap64 ((wrap64 ((wrap64 ((wrap64 (x1_1 + 1)) + 1)) + 1)) + 1)), (wrap64 (x5_1 + 1)), RF, RF, H', ⟨by have := HK1.out; omega⟩, DR⟩
        ·rw [if_neg c8] at H
         have c8b0 := beqF c8
         have c8b1 := bneT c8
         obtain rfl := Option.some.inj H
         have p379 : 0 ≤ (x5_1 : Int) := odt
         have q379 : x5_1 < (l0.length : Int) := odt
         obtain ⟨ad379, e379, hx379_0, hx379_1, hx379_2, hx379_3⟩ := at_T100 HR0.out x5_1 p379 q379
         cases e379
         replace p379 := eq_true p379
         replace q379 := eq_true q379
         have p380 : 0 ≤ (x5_1 : Int) := odt
         have q380 : x5_1 < (l0.length : Int) := odt
         obtain ⟨ad380, e380, hx380_0, hx380_1, hx380_2, hx380_3⟩ := at_T100 HR0.out x5_1 p380 q380
         obtain rfl : ad379 = ad380 := (by injection e380)
         replace p380 := eq_true p380
         replace q380 := eq_true q380
         have p381 : 0 ≤ (x5_1 : Int) := odt
         have q381 : x5_1 < (l0.length : Int) := odt
         obtain ⟨ad381, e381, hx381_0, hx381_1, hx381_2, hx381_3⟩ := at_T100 HR0.out x5_1 p381 q381
         obtain rfl : ad379 = ad381 := (by injection e381)
         replace p381 := eq_true p381
         replace q381 := eq_true q381
         have p382 : 0 ≤ (x5_1 : Int) := odt
         have q382 : x5_1 < (l0.length : Int) := odt
         obtain ⟨ad382, e382, hx382_0, hx382_1, hx382_2, hx382_3⟩ := at_T100 HR0.out x5_1 p382 q382
         obtain rfl : ad379 = ad382 := (by injection e382)
         replace p382 := eq_true p382
         replace q382 := eq_true q382
         go_wp2
         go_ret
         exact ⟨RF, DR⟩
       ·rw [if_neg c7] at H
        have c7b0 := beqF c7
        have c7b1 := bneT c7
        obtain rfl := Option.some.inj H
        have p379 : 0 ≤ (x5_1 : Int) := odt
        have q379 : x5_1 < (l0.length : Int) := odt
        obtain ⟨ad379, e379, hx379_0, hx379_1, hx379_2, hx379_3⟩ := at_T100 HR0.out x5_1 p379 q379
        cases e379
        replace p379 := eq_true p379
        replace q379 := eq_true q379
        have p380 : 0 ≤ (x5_1 : Int) := odt
        have q380 : x5_1 < (l0.length : Int) := odt
        obtain ⟨ad380, e380, hx380_0, hx380_1, hx380_2, hx380_3⟩ := at_T100 HR0.out x5_1 p380 q380
        obtain rfl : ad379 = ad380 := (by injection e380)
        replace p380 := eq_true p380
        replace q380 := eq_true q380
        have p381 : 0 ≤ (x5_1 : Int) := odt
        have q381 : x5_1 < (l0.length : Int) := odt
        obtain ⟨ad381, e381, hx381_0, hx381_1, hx381_2, hx381_3⟩ := at_T100 HR0.out x5_1 p381 q381
        obtain rfl : ad379 = ad381 := (by injection e381)
        replace p381 := eq_true p381
        replace q381 := eq_true q381
        go_wp2
        go_ret
        exact ⟨RF, DR⟩
      ·rw [if_neg c6] at H
       have c6b0 := beqF c6
       have c6b1 := bneT c6
       obtain rfl := Option.some.inj H
       have p379 : 0 ≤ (x5_1 : Int) := odt
       have q379 : x5_1 < (l0.length : Int) := odt
       obtain ⟨ad379, e379, hx379_0, hx379_1, hx379_2, hx379_3⟩ := at_T100 HR0.out x5_1 p379 q379
       cases e379
       replace p379 := eq_true p379
       replace q379 := eq_true q379
       have p380 : 0 ≤ (x5_1 : Int) := odt
       have q380 : x5_1 < (l0.length : Int) := odt
       obtain ⟨ad380, e380, hx380_0, hx380_1, hx380_2, hx380_3⟩ := at_T100 HR0.out x5_1 p380 q380
       obtain rfl : ad379 = ad380 := (by injection e380)
       replace p380 := eq_true p380
       replace q380 := eq_true q380
       go_wp2
       go_ret
       exact ⟨RF, DR⟩
     ·rw [if_neg c5] at H
      have c5b0 := beqF c5
      have c5b1 := bneT c5
      obtain rfl := Option.some.inj H
      have p379 : 0 ≤ (x5_1 : Int) := odt
      have q379 : x5_1 < (l0.length : Int) := odt
      obtain ⟨ad379, e379, hx379_0, hx379_1, hx379_2, hx379_3⟩ := at_T100 HR0.out x5_1 p379 q379
      cases e379
      replace p379 := eq_true p379
      replace q379 := eq_true q379
      go_wp2
      go_ret
      exact ⟨RF, DR⟩
    ·rw [if_neg c4] at H
     exact absurd H (by simp)
   ·rw [if_neg c3] at H
    have c3b0 := decide_eq_false c3
    clear c3
    obtain rfl := Option.some.inj H
    go_wp2
    go_ret
    exact ⟨RF, DR⟩
end Go.Proofs.Ytpbhoembdoofiaa.B
namespace Go.Proofs.Ytpbhoembdoofiaa.B
open Go.RowKit Go.Proofs.YtpbhoembdoofiaaW.PrintWords Go.Proofs.YtpbhoembdoofiaaW.PrintLast Go.Proofs.YtpbhoembdoofiaaW.PrintMore Go.Proofs.YtpbhoembdoofiaaW.Zc
set_option linter.unusedVariables false
set_option linter.unusedSimpArgs false
def laws_heldEntryS.l0 : Nat → List (S61) → Int → Int → Option (Int)
  | 0, _, _, _ => none
  | k + 1, x0, x1, x5 => if x5 < (x0.length : Int) then (if 0 ≤ x5 then (if ((rd_T61 x0 x5).f0.f0) = x1 then (if ((rd_T61 x0 x5).f0.f1) = (wrap64 (x1 + 1)) then (if ((rd_T61 x0 x5).f1) = (wrap64 ((wrap64 (x1 + 1)) + 1)) then (if ((rd_T61 x0 x5).f2) = (wrap64 ((wrap64 ((wrap64 (x1 + 1)) + 1)) + 1)) then (laws_heldEntryS.l0 k x0 (wrap64 ((wrap64 ((wrap64 ((wrap64 (x1 + 1)) + 1)) + 1)) + 1)) (wrap64 (x5 + 1))) else (some (-1))) else (some (-1))) else (some (-1))) else (some (-1))) else (none)) else (some x1)
def laws_heldEntryS.f (k : Nat) (l0 : List (S61)) (a1 : Int) : Option (Int) := laws_heldEntryS.l0 k l0 a1 0
set_option maxHeartbeats 8000000 in
set_option maxRecDepth 100000 in
theorem laws_heldEntryS.calls (k : Nat) (A0 : Option Addr) (c0 : Nat) (l0 : List (S61)) (a1 : Int) (r : Int) (w : World) (hr0 : Kd.C k61 w A0 l0.length l0) (hc0 : l0.length ≤ c0) (h : laws_heldEntryS.f k l0 a1 = some r) :
    Calls Try.prog 36 #[.slice A0 l0.length c0, .int .i64 a1] w fun e w' => e = .returned (.int .i64 r) ∧ Drawn0 w w' := by
 have HR0 := Aside0.mk hr0
 have HC0 := Aside0.mk hc0
 clear hr0 hc0
 have H : (laws_heldEntryS.l0 k l0 a1 0) = some r := h
 clear h
 have H' := Aside0.mk H
 clear H
 go_enter Try.func36, Try.ntmps36
 go_wp2
 go_loopg [1, 5] k (fun kq v1 v5 w' => ∃ (x1_1 : Int) (x5_1 : Int), v1 = .int .i64 x1_1 ∧ v5 = .int .i64 x5_1 ∧ Aside0 (laws_heldEntryS.l0 kq l0 x1_1 x5_1 = some r) ∧ Aside0 (kq ≤ k) ∧ Drawn0 w w')
 case atStart => exact ⟨(a1), (0), RF, RF, H', ⟨Nat.le_refl _⟩, DR⟩
 case round =>
  clear H'
  try clear p2
  obtain ⟨x1_1, x5_1, rfl, rfl, HA, HK1, ⟨m1, rfl⟩⟩ := hrel
  cases gk with
  | zero => exact absurd HA.out (by simp [laws_heldEntryS.l0])
  | succ k1 =>
   have H := HA.out
   clear HA
   simp only [laws_heldEntryS.l0] at H
   by_cases c3 : x5_1 < (l0.length : Int)
   ·rw [if_pos c3] at H
    have c3b0 := decide_eq_true c3
    clear c3
    by_cases c4 : 0 ≤ x5_1
    ·rw [if_pos c4] at H
     have c4b0 := decide_eq_true c4
     clear c4
     by_cases c5 : ((rd_T61 l0 x5_1).f0.f0) = x1_1
     ·rw [if_pos c5] at H
      have c5b0 := beqT c5
      have c5b1 := bneF c5
      clear c5
      by_cases c6 : ((rd_T61 l0 x5_1).f0.f1) = (wrap64 (x1_1 + 1))
      ·rw [if_pos c6] at H
       have c6b0 := beqT c6
       have c6b1 := bneF c6
       clear c6
       by_cases c7 : ((rd_T61 l0 x5_1).f1) = (wrap64 ((wrap64 (x1_1 + 1)) + 1))
       ·rw [if_pos c7] at H
        have c7b0 := beqT c7
        have c7b1 := bneF c7
        clear c7
        by_cases c8 : ((rd_T61 l0 x5_1).f2) = (wrap64 ((wrap64 ((wrap64 (x1_1 + 1)) + 1)) + 1))
        ·rw [if_pos c8] at H
         have c8b0 := beqT c8
         have c8b1 := bneF c8
         clear c8
         have H' := Aside0.mk H
         clear H
         have p387 : 0 ≤ (x5_1 : Int) := odt
         have q387 : x5_1 < (l0.length : Int) := odt
         obtain ⟨ad387, e387, hx387_0, hx387_1, hx387_2, hx387_3⟩ := at_T61 HR0.out x5_1 p387 q387
         cases e387
         replace p387 := eq_true p387
         replace q387 := eq_true q387
         have p388 : 0 ≤ (x5_1 : Int) := odt
         have q388 : x5_1 < (l0.length : Int) := odt
         obtain ⟨ad388, e388, hx388_0, hx388_1, hx388_2, hx388_3⟩ := at_T61 HR0.out x5_1 p388 q388
         obtain rfl : ad387 = ad388 := (by injection e388)
         replace p388 := eq_true p388
         replace q388 := eq_true q388
         have p389 : 0 ≤ (x5_1 : Int) := odt
         have q389 : x5_1 < (l0.length : Int) := odt
         obtain ⟨ad389, e389, hx389_0, hx389_1, hx389_2, hx389_3⟩ := at_T61 HR0.out x5_1 p389 q389
         obtain rfl : ad387 = ad389 := (by injection e389)
         replace p389 := eq_true p389
         replace q389 := eq_true q389
         have p390 : 0 ≤ (x5_1 : Int) := odt
         have q390 : x5_1 < (l0.length : Int) := odt
         obtain ⟨ad390, e390, hx390_0, hx390_1, hx390_2, hx390_3⟩ := at_T61 HR0.out x5_1 p390 q390
         obtain rfl : ad387 = ad390 := (by injection e390)
         replace p390 := eq_true p390
         replace q390 := eq_true q390
         go_wp2
         go_roundg k1
         case measure => have := HK1.out; omega
         case rel => exact ⟨(wrap64 ((wrap64 ((wrap64 ((wrap64 (x1_1 + 1)) + 1)) + 1)) + 1)), (wrap64 (x5_1 + 1)), RF, RF, H', ⟨by have := HK1.out; omega⟩, DR⟩
        ·rw [if_neg c8] at H
         have c8b0 := beqF c8
         have c8b1 := bneT c8
         obtain rfl := Option.some.inj H
         have p387 : 0 ≤ (x5_1 : Int) := odt
         have q387 : x5_1 < (l0.length : Int) := odt
         obtain ⟨ad387, e387, hx387_0, hx387_1, hx387_2, hx387_3⟩ := at_T61 HR0.out x5_1 p387 q387
         cases e387
         replace p387 := eq_true p387
         replace q387 := eq_true q387
         have p388 : 0 ≤ (x5_1 : Int) := odt
         have q388 : x5_1 < (l0.length : Int) := odt
         obtain ⟨ad388, e388, hx388_0, hx388_1, hx388_2, hx388_3⟩ := at_T61 HR0.out x5_1 p388 q388
         obtain rfl : ad387 = ad388 := (by injection e388)
         replace p388 := eq_true p388
         replace q388 := eq_true q388
         have p389 : 0 ≤ (x5_1 : Int) := odt
         have q389 : x5_1 < (l0.length : Int) := odt
         obtain ⟨ad389, e389, hx389_0, hx389_1, hx389_2, hx389_3⟩ := at_T61 HR0.out x5_1 p389 q389
         obtain rfl : ad387 = ad389 := (by injection e389)
         replace p389 := eq_true p389
         replace q389 := eq_true q389
         have p390 : 0 ≤ (x5_1 : Int) := odt
         have q390 : x5_1 < (l0.length : Int) := odt
         obtain ⟨ad390, e390, hx390_0, hx390_1, hx390_2, hx390_3⟩ := at_T61 HR0.out x5_1 p390 q390
         obtain rfl : ad387 = ad390 := (by injection e390)
         replace p390 := eq_true p390
         replace q390 := eq_true q390
         go_wp2
         go_ret
         exact ⟨RF, DR⟩
       ·rw [if_neg c7] at H
        have c7b0 := beqF c7
        have c7b1 := bneT c7
        obtain rfl := Option.some.inj H
        have p387 : 0 ≤ (x5_1 : Int) := odt
        have q387 : x5_1 < (l0.length : Int) := odt
        obtain ⟨ad387, e387, hx387_0, hx387_1, hx387_2, hx387_3⟩ := at_T61 HR0.out x5_1 p387 q387
        cases e387
        replace p387 := eq_true p387
        replace q387 := eq_true q387
        have p388 : 0 ≤ (x5_1 : Int) := odt
        have q388 : x5_1 < (l0.length : Int) := odt
        obtain ⟨ad388, e388, hx388_0, hx388_1, hx388_2, hx388_3⟩ := at_T61 HR0.out x5_1 p388 q388
        obtain rfl : ad387 = ad388 := (by injection e388)
        replace p388 := eq_true p388
        replace q388 := eq_true q388
        have p389 : 0 ≤ (x5_1 : Int) := odt
        have q389 : x5_1 < (l0.length : Int) := odt
        obtain ⟨ad389, e389, hx389_0, hx389_1, hx389_2, hx389_3⟩ := at_T61 HR0.out x5_1 p389 q389
        obtain rfl : ad387 = ad389 := (by injection e389)
        replace p389 := eq_true p389
        replace q389 := eq_true q389
        go_wp2
        go_ret
        exact ⟨RF, DR⟩
      ·rw [if_neg c6] at H
       have c6b0 := beqF c6
       have c6b1 := bneT c6
       obtain rfl := Option.some.inj H
       have p387 : 0 ≤ (x5_1 : Int) := odt
       have q387 : x5_1 < (l0.length : Int) := odt
       obtain ⟨ad387, e387, hx387_0, hx387_1, hx387_2, hx387_3⟩ := at_T61 HR0.out x5_1 p387 q387
       cases e387
       replace p387 := eq_true p387
       replace q387 := eq_true q387
       have p388 : 0 ≤ (x5_1 : Int) := odt
       have q388 : x5_1 < (l0.length : Int) := odt
       obtain ⟨ad388, e388, hx388_0, hx388_1, hx388_2, hx388_3⟩ := at_T61 HR0.out x5_1 p388 q388
       obtain rfl : ad387 = ad388 := (by injection e388)
       replace p388 := eq_true p388
       replace q388 := eq_true q388
       go_wp2
       go_ret
       exact ⟨RF, DR⟩
     ·rw [if_neg c5] at H
      have c5b0 := beqF c5
      have c5b1 := bneT c5
      obtain rfl := Option.some.inj H
      have p387 : 0 ≤ (x5_1 : Int) := odt
      have q387 : x5_1 < (l0.length : Int) := odt
      obtain ⟨ad387, e387, hx387_0, hx387_1, hx387_2, hx387_3⟩ := at_T61 HR0.out x5_1 p387 q387
      cases e387
      replace p387 := eq_true p387
      replace q387 := eq_true q387
      go_wp2
      go_ret
      exact ⟨RF, DR⟩
    ·rw [if_neg c4] at H
     exact absurd H (by simp)
   ·rw [if_neg c3] at H
    have c3b0 := decide_eq_false c3
    clear c3
    obtain rfl := Option.some.inj H
    go_wp2
    go_ret
    exact ⟨RF, DR⟩
end Go.Proofs.Ytpbhoembdoofiaa.B
namespace Go.Proofs.Ytpbhoembdoofiaa.B
open Go.RowKit Go.Proofs.YtpbhoembdoofiaaW.PrintWords Go.Proofs.YtpbhoembdoofiaaW.PrintLast Go.Proofs.YtpbhoembdoofiaaW.PrintMore Go.Proofs.YtpbhoembdoofiaaW.Zc
set_option linter.unusedVariables false
set_option linter.unusedSimpArgs false
def toStp (s : S107) : S100 := ⟨s.f0, s.f1, s.f2, s.f3⟩
def toEnt (s : S88) : S61 := ⟨⟨s.f0.f0, s.f0.f1⟩, s.f1, s.f2⟩
theorem pw_rdLS (l : List S107) (i : Nat) (h : i < l.length) : rd_T107 l (i : Int) = l[i] := by unfold rd_T107; simp [h]
theorem pw_rdLE (l : List S88) (i : Nat) (h : i < l.length) : rd_T88 l (i : Int) = l[i] := by unfold rd_T88; simp [h]
theorem pw_rdS (l : List S100) (i : Nat) (h : i < l.length) : rd_T100 l (i : Int) = l[i] := by unfold rd_T100; simp [h]
theorem pw_rdE (l : List S61) (i : Nat) (h : i < l.length) : rd_T61 l (i : Int) = l[i] := by unfold rd_T61; simp [h]
theorem pw_toStep (l : List S107) (hl : l.length ≤ 1048576) : ∀ n k i (acc : List S100), n + i = l.length → acc.length = l.length → n < k → laws_toStepS.l0 k l acc (i : Nat) = some (acc.take i ++ (l.map toStp).drop i)
  | n, 0, i, acc, hn, ha, h => by omega
  | 0, k + 1, i, acc, hn, ha, h => by
    simp only [laws_toStepS.l0]
    rw [if_neg (by omega), List.take_of_length_le (by omega), List.drop_eq_nil_of_le (by rw [List.length_map]; omega), List.append_nil]
  | n + 1, k + 1, i, acc, hn, ha, h => by
    have hi : i < l.length := by omega
    simp only [laws_toStepS.l0, laws_toStep.f, Option.bind_some, pw_w i (by omega), pw_rdLS l i hi, Int.toNat_natCast]
    rw [if_pos (by omega), if_pos (by omega), if_pos (by omega), pw_toStep l hl n k (i + 1) _ (by omega) (by rw [List.length_set]; exact ha) (by omega), pw_set_step _ _ _ _ (by omega) (by rw [List.drop_eq_getElem_cons (by rw [List.length_map]; omega), List.getElem_map]; rfl)]
theorem pw_toStepS (k : Nat) (l : List S107) (hl : l.length ≤ 1048576) (hk : l.length < k) : laws_toStepS.f k l = some (l.map toStp) := by
  have := pw_toStep l hl l.length k 0 (List.replicate l.length z100) (by omega) (by simp) hk
  unfold laws_toStepS.f
  rw [if_pos (by omega), Int.toNat_natCast, if_pos (by omega)]
  simpa using this
theorem pw_toEntry (l : List S88) (hl : l.length ≤ 1048576) : ∀ n k i (acc : List S61), n + i = l.length → acc.length = l.length → n < k → laws_toEntryS.l0 k l acc (i : Nat) = some (acc.take i ++ (l.map toEnt).drop i)
  | n, 0, i, acc, hn, ha, h => by omega
  | 0, k + 1, i, acc, hn, ha, h => by
    simp only [laws_toEntryS.l0]
    rw [if_neg (by omega), List.take_of_length_le (by omega), List.drop_eq_nil_of_le (by rw [List.length_map]; omega), List.append_nil]
  | n + 1, k + 1, i, acc, hn, ha, h => by
    have hi : i < l.length := by omega
    simp only [laws_toEntryS.l0, laws_toEntry.f, laws_toPipe.f, Option.bind_some, pw_w i (by omega), pw_rdLE l i hi, Int.toNat_natCast]
    rw [if_pos (by omega), if_pos (by omega), if_pos (by omega), pw_toEntry l hl n k (i + 1) _ (by omega) (by rw [List.length_set]; exact ha) (by omega), pw_set_step _ _ _ _ (by omega) (by rw [List.drop_eq_getElem_cons (by rw [List.length_map]; omega), List.getElem_map]; rfl)]
theorem pw_toEntryS (k : Nat) (l : List S88) (hl : l.length ≤ 1048576) (hk : l.length < k) : laws_toEntryS.f k l = some (l.map toEnt) := by
  have := pw_toEntry l hl l.length k 0 (List.replicate l.length z61) (by omega) (by simp) hk
  unfold laws_toEntryS.f
  rw [if_pos (by omega), Int.toNat_natCast, if_pos (by omega)]
  simpa using this
theorem pw_eqStep (l : List S100) (hl : l.length ≤ 4398046511104) : ∀ n k i, n + i = l.length → n < k → laws_eqStepS.l0 k l l (i : Nat) = some true
  | n, 0, i, hn, h => by omega
  | 0, k + 1, i, hn, h => by
    simp only [laws_eqStepS.l0]
    rw [if_neg (by omega)]
  | n + 1, k + 1, i, hn, h => by
    have hi : i < l.length := by omega
    simp only [laws_eqStepS.l0, laws_eqStep.f, pw_w i (by omega), if_true, Option.bind_some]
    rw [if_pos (by omega), if_pos (by omega), if_pos (by omega), pw_eqStep l hl n k (i + 1) (by omega) (by omega)]
theorem pw_eqStepS (k : Nat) (l : List S100) (hl : l.length ≤ 4398046511104) (hk : l.length < k) : laws_eqStepS.f k l l = some true := by
  unfold laws_eqStepS.f
  rw [if_pos rfl]
  exact pw_eqStep l hl l.length k 0 (by omega) hk
theorem pw_eqEntry (l : List S61) (hl : l.length ≤ 4398046511104) : ∀ n k i, n + i = l.length → n < k → laws_eqEntryS.l0 k l l (i : Nat) = some true
  | n, 0, i, hn, h => by omega
  | 0, k + 1, i, hn, h => by
    simp only [laws_eqEntryS.l0]
    rw [if_neg (by omega)]
  | n + 1, k + 1, i, hn, h => by
    have hi : i < l.length := by omega
    simp only [laws_eqEntryS.l0, laws_eqEntry.f, laws_eqPipe.f, pw_w i (by omega), if_true, Option.bind_some]
    rw [if_pos (by omega), if_pos (by omega), if_pos (by omega), pw_eqEntry l hl n k (i + 1) (by omega) (by omega)]
theorem pw_eqEntryS (k : Nat) (l : List S61) (hl : l.length ≤ 4398046511104) (hk : l.length < k) : laws_eqEntryS.f k l l = some true := by
  unfold laws_eqEntryS.f
  rw [if_pos rfl]
  exact pw_eqEntry l hl l.length k 0 (by omega) hk
theorem pw_w4 (x : Int) (h : 0 ≤ x) (h1 : x < 9223372036854775800) : wrap64 (x + 1) = x + 1 ∧ wrap64 (x + 1 + 1) = x + 2 ∧ wrap64 (x + 2 + 1) = x + 3 ∧ wrap64 (x + 3 + 1) = x + 4 :=
  ⟨by rw [Go.IntWalk.wrap64_in _ (by omega)], by rw [Go.IntWalk.wrap64_in _ (by omega)]; omega, by rw [Go.IntWalk.wrap64_in _ (by omega)]; omega, by rw [Go.IntWalk.wrap64_in _ (by omega)]; omega⟩
def mkS : Nat → Int → List S100
  | 0, _ => []
  | n + 1, x => ⟨x, x + 1, x + 2, x + 3⟩ :: mkS n (x + 4)
theorem mkS_length : ∀ n x, (mkS n x).length = n
  | 0, _ => rfl
  | n + 1, x => by rw [mkS, List.length_cons, mkS_length]
def mkE : Nat → Int → List S61
  | 0, _ => []
  | n + 1, x => ⟨⟨x, x + 1⟩, x + 2, x + 3⟩ :: mkE n (x + 4)
theorem mkE_length : ∀ n x, (mkE n x).length = n
  | 0, _ => rfl
  | n + 1, x => by rw [mkE, List.length_cons, mkE_length]
theorem pw_rdset (l : List S100) (i : Nat) (v : S100) (h : i < l.length) : rd_T100 (l.set i v) (i : Int) = v := by rw [pw_rdS _ _ (by rw [List.length_set]; exact h), List.getElem_set_self]
theorem pw_setset {α : Type} (l : List α) (i : Nat) (u v : α) : (l.set i u).set i v = l.set i v := List.set_set ..
theorem pw_markStep : ∀ n k i (xs : List S100) (x : Int), n + i = xs.length → xs.length ≤ 4398046511104 → 0 ≤ x → x + 4 * n ≤ 9000000000000000000 → n < k → laws_markStepS.l0 k xs x (i : Nat) = some (x + 4 * n, xs.take i ++ mkS n x)
  | n, 0, i, xs, x, hn, hl, h0, h1, h => by omega
  | 0, k + 1, i, xs, x, hn, hl, h0, h1, h => by
    simp only [laws_markStepS.l0, mkS]
    rw [if_neg (by omega), List.take_of_length_le (by omega), List.append_nil]
    simp
  | n + 1, k + 1, i, xs, x, hn, hl, h0, h1, h => by
    obtain ⟨e1, e2, e3, e4⟩ := pw_w4 x h0 (by omega)
    have hi : i < xs.length := by omega
    simp only [laws_markStepS.l0, mkS, pw_w i (by omega), e1, e2, e3, e4, Int.toNat_natCast, Option.bind_some, pw_rdset _ _ _ hi, pw_setset]
    rw [if_pos (by omega), if_pos (by omega), pw_markStep n k (i + 1) _ (x + 4) (by rw [List.length_set]; omega) (by rw [List.length_set]; omega) (by omega) (by omega) (by omega), pw_take_set _ _ _ (by omega), show x + 4 + 4 * (n : Int) = x + 4 * ((n + 1 : Nat) : Int) by omega]
theorem pw_markStepS (k : Nat) (l : List S100) (x : Int) (hl : l.length ≤ 4398046511104) (h0 : 0 ≤ x) (h1 : x + 4 * l.length ≤ 9000000000000000000) (hk : l.length < k) : laws_markStepS.f k l x = some (x + 4 * l.length, mkS l.length x) := by
  unfold laws_markStepS.f
  exact pw_markStep l.length k 0 l x (by omega) hl h0 h1 hk
theorem pw_markEntry : ∀ n i (xs : List S61) (x : Int), n + i = xs.length → 0 ≤ x → x + 4 * n ≤ 9000000000000000000 → laws_markEntryS.go n xs x i = (x + 4 * n, xs.take i ++ mkE n x)
  | 0, i, xs, x, hn, h0, h1 => by
    simp only [laws_markEntryS.go, mkE]
    rw [List.take_of_length_le (by omega), List.append_nil]
    simp
  | n + 1, i, xs, x, hn, h0, h1 => by
    obtain ⟨e1, e2, e3, e4⟩ := pw_w4 x h0 (by omega)
    simp only [laws_markEntryS.go, laws_markEntryS.e, mkE, e1, e2, e3, e4]
    rw [pw_markEntry n (i + 1) _ (x + 4) (by rw [List.length_set]; omega) (by omega) (by omega), pw_take_set _ _ _ (by omega), show x + 4 + 4 * (n : Int) = x + 4 * ((n + 1 : Nat) : Int) by omega]
theorem pw_markEntryS (l : List S61) (x : Int) (h0 : 0 ≤ x) (h1 : x + 4 * l.length ≤ 9000000000000000000) : laws_markEntryS.f l x = some (x + 4 * l.length, mkE l.length x) := by
  unfold laws_markEntryS.f
  rw [pw_markEntry l.length 0 l x (by omega) h0 h1]
  rfl
theorem pw_heldStep : ∀ n k i (xs p : List S100) (x : Int), xs = p ++ mkS n x → i = p.length → xs.length ≤ 4398046511104 → 0 ≤ x → x + 4 * n ≤ 9000000000000000000 → n < k → laws_heldStepS.l0 k xs x (i : Nat) = some (x + 4 * n)
  | n, 0, i, xs, p, x, hx, hi, hl, h0, h1, h => by omega
  | 0, k + 1, i, xs, p, x, hx, hi, hl, h0, h1, h => by
    subst hx
    simp only [laws_heldStepS.l0, mkS, List.append_nil]
    rw [if_neg (by omega)]
    simp
  | n + 1, k + 1, i, xs, p, x, hx, hi, hl, h0, h1, h => by
    have hlen : xs.length = i + (n + 1) := by rw [hx, List.length_append, mkS_length, hi]
    have hr : rd_T100 xs (i : Int) = ⟨x, x + 1, x + 2, x + 3⟩ := by
      rw [pw_rdS xs i (by omega)]
      simp only [hx, mkS]
      rw [List.getElem_append_right (by omega)]
      simp [hi]
    obtain ⟨e1, e2, e3, e4⟩ := pw_w4 x h0 (by omega)
    simp only [laws_heldStepS.l0, pw_w i (by omega), e1, e2, e3, e4, hr, if_true]
    rw [if_pos (by omega), if_pos (by omega), pw_heldStep n k (i + 1) xs (p ++ [⟨x, x + 1, x + 2, x + 3⟩]) (x + 4) (by rw [hx, mkS]; simp) (by simp [hi]) hl (by omega) (by omega) (by omega), show x + 4 + 4 * (n : Int) = x + 4 * ((n + 1 : Nat) : Int) by omega]
theorem pw_heldStepS (k n : Nat) (x : Int) (hl : n ≤ 4398046511104) (h0 : 0 ≤ x) (h1 : x + 4 * n ≤ 9000000000000000000) (hk : n < k) : laws_heldStepS.f k (mkS n x) x = some (x + 4 * n) := by
  unfold laws_heldStepS.f
  exact pw_heldStep n k 0 _ [] x rfl rfl (by rw [mkS_length]; exact hl) h0 h1 hk
theorem pw_heldEntry : ∀ n k i (xs p : List S61) (x : Int), xs = p ++ mkE n x → i = p.length → xs.length ≤ 4398046511104 → 0 ≤ x → x + 4 * n ≤ 9000000000000000000 → n < k → laws_heldEntryS.l0 k xs x (i : Nat) = some (x + 4 * n)
  | n, 0, i, xs, p, x, hx, hi, hl, h0, h1, h => by omega
  | 0, k + 1, i, xs, p, x, hx, hi, hl, h0, h1, h => by
    subst hx
    simp only [laws_heldEntryS.l0, mkE, List.append_nil]
    rw [if_neg (by omega)]
    simp
  | n + 1, k + 1, i, xs, p, x, hx, hi, hl, h0, h1, h => by
    have hlen : xs.length = i + (n + 1) := by rw [hx, List.length_append, mkE_length, hi]
    have hr : rd_T61 xs (i : Int) = ⟨⟨x, x + 1⟩, x + 2, x + 3⟩ := by
      rw [pw_rdE xs i (by omega)]
      simp only [hx, mkE]
      rw [List.getElem_append_right (by omega)]
      simp [hi]
    obtain ⟨e1, e2, e3, e4⟩ := pw_w4 x h0 (by omega)
    simp only [laws_heldEntryS.l0, pw_w i (by omega), e1, e2, e3, e4, hr, if_true]
    rw [if_pos (by omega), if_pos (by omega), pw_heldEntry n k (i + 1) xs (p ++ [⟨⟨x, x + 1⟩, x + 2, x + 3⟩]) (x + 4) (by rw [hx, mkE]; simp) (by simp [hi]) hl (by omega) (by omega) (by omega), show x + 4 + 4 * (n : Int) = x + 4 * ((n + 1 : Nat) : Int) by omega]
theorem pw_heldEntryS (k n : Nat) (x : Int) (hl : n ≤ 4398046511104) (h0 : 0 ≤ x) (h1 : x + 4 * n ≤ 9000000000000000000) (hk : n < k) : laws_heldEntryS.f k (mkE n x) x = some (x + 4 * n) := by
  unfold laws_heldEntryS.f
  exact pw_heldEntry n k 0 _ [] x rfl rfl (by rw [mkE_length]; exact hl) h0 h1 hk
end Go.Proofs.Ytpbhoembdoofiaa.B
namespace Go.Proofs.Ytpbhoembdoofiaa.B
open Go.RowKit Go.Proofs.YtpbhoembdoofiaaW.PrintWords Go.Proofs.YtpbhoembdoofiaaW.PrintLast Go.Proofs.YtpbhoembdoofiaaW.PrintMore Go.Proofs.YtpbhoembdoofiaaW.Zc
set_option linter.unusedVariables false
set_option linter.unusedSimpArgs false
def laws_szStepS.f (l0 : List (S107)) (a1 : Int) : Option (Int) := if (wrap64 (a1 - (l0.length : Int))) < 0 then (some (-1)) else (some (wrap64 (a1 - (l0.length : Int))))
set_option maxHeartbeats 8000000 in
set_option maxRecDepth 100000 in
theorem laws_szStepS.calls (A0 : Option Addr) (c0 : Nat) (l0 : List (S107)) (a1 : Int) (r : Int) (w : World) (hr0 : Kd.C k107 w A0 l0.length l0) (hc0 : l0.length ≤ c0) (h : laws_szStepS.f l0 a1 = some r) :
    Calls Try.prog 47 #[.slice A0 l0.length c0, .int .i64 a1] w fun e w' => e = .returned (.int .i64 r) ∧ Drawn0 w w' := by
 have HR0 := Aside0.mk hr0
 have HC0 := Aside0.mk hc0
 clear hr0 hc0
 have H : (if (wrap64 (a1 - (l0.length : Int))) < 0 then (some (-1)) else (some (wrap64 (a1 - (l0.length : Int))))) = some r := h
 clear h
 by_cases c3 : (wrap64 (a1 - (l0.length : Int))) < 0
 ·rw [if_pos c3] at H
  have c3b0 := decide_eq_true c3
  clear c3
  obtain rfl := Option.some.inj H
  go_enter Try.func47, Try.ntmps47
  go_wp2
  go_ret
  exact ⟨RF, DR⟩
 ·rw [if_neg c3] at H
  have c3b0 := decide_eq_false c3
  clear c3
  obtain rfl := Option.some.inj H
  go_enter Try.func47, Try.ntmps47
  go_wp2
  go_ret
  exact ⟨RF, DR⟩
end Go.Proofs.Ytpbhoembdoofiaa.B
namespace Go.Proofs.Ytpbhoembdoofiaa.B
open Go.RowKit Go.Proofs.YtpbhoembdoofiaaW.PrintWords Go.Proofs.YtpbhoembdoofiaaW.PrintLast Go.Proofs.YtpbhoembdoofiaaW.PrintMore Go.Proofs.YtpbhoembdoofiaaW.Zc
set_option linter.unusedVariables false
set_option linter.unusedSimpArgs false
def spec_l19Copy.f (l0 : List (S100)) : Option ((List (S100))) := (some (([] : List (S100)) : List (S100))).bind fun y107 => (if y107.length + l0.length < 4398046511104 then (some (y107 ++ l0)) else (none))
set_option maxHeartbeats 8000000 in
set_option maxRecDepth 100000 in
theorem spec_l19Copy.calls (A0 : Option Addr) (c0 : Nat) (l0 : List (S100)) (r : List (S100)) (w : World) (hr0 : Kd.C k100 w A0 l0.length l0) (hc0 : l0.length ≤ c0) (h : spec_l19Copy.f l0 = some r) :
    Calls Try.prog 77 #[.slice A0 l0.length c0] w fun e w' => ∃ v0_ : Value, e = .returned (v0_) ∧ Kd.R k100 100 w' w.heap.size (fun _ => True) v0_ r ∧ Below w.heap.size w w' := by
 have HR0 := Aside0.mk hr0
 have HC0 := Aside0.mk hc0
 clear hr0 hc0
 have HB := Aside0.mk (Below.refl w.heap.size w)
 have H : ((some (([] : List (S100)) : List (S100))).bind fun y107 => (if y107.length + l0.length < 4398046511104 then (some (y107 ++ l0)) else (none))) = some r := h
 clear h
 obtain ⟨y107, Ny107⟩ : ∃ y_ : List (S100), Aside0 (y_ = (([] : List (S100)))) := ⟨_, ⟨rfl⟩⟩
 rw [← Ny107.out] at H
 (try rw [Option.bind_some] at H)
 by_cases c2 : y107.length + l0.length < 4398046511104
 ·rw [if_pos c2] at H
  have LMc2 := Aside0.mk c2
  clear c2
  obtain ⟨y110, Ny110⟩ : ∃ y_ : List (S100), Aside0 (y_ = (y107 ++ l0)) := ⟨_, ⟨rfl⟩⟩
  rw [← Ny110.out] at H
  (try rw [Option.bind_some] at H)
  obtain rfl := Option.some.inj H
  go_enter Try.func77, Try.ntmps77
  go_wp2_with (first | ((with_reducible refine gate_dst (N := 3) rfl ?_); refine Kd.R_lit k100 _ 100 ?hg (N := 3) ?hd (xs := ([] : List (S100))) (inner := []) (ok := fun _ => True) (okp := fun _ => True) ?hr ?hp (fun _ hk => hk) trivial (Below.refl _ _) (Nat.le_refl _) (by simp) ?_; (case hd => rfl); (case hg => rfl); (case hr => exact GR); (case hp => exact (Reps.none _ _)); intro v108 w3 ho4 hb hg_ hnew_; clear hg_ hnew_; (first | rw [← Ny107.out] at ho4 | (simp only [Int.reduceToNat] at ho4; rw [← Ny107.out] at ho4)); have HO109 := rlB ho4; replace HB := bbB hb; clear hb ho4) | ((with_reducible refine gate_builtin (b := .append) (xs := #[.tmp 3, .tmp 4]) rfl ?_); at_builtin; refine Kd.R_append_rows k100 (w0 := w) w.heap.size rfl (.tmp 3) (.tmp 4) 32 100 (.agg #[(.int .i64 0), (.int .i64 0), (.int .i64 0), (.int .i64 0)]) 32 rfl Try.underlying32 info100 rfl (by decide) (by omega) v108 y107 l0 _ _ _ (fun _ => True) (fun _ => False) rfl rfl ?aO ?aR (fun _ _ h => h) (fun _ h => h.elim) ?aF ?aB ?aS ?aL ?_; (case aR => exact cZr (Kd.C_below HR0.out HB.out)); (case aB => exact BB); (case aF => exact (fun _ _ => trivial)); (case aO => exact (rZr HO109)); (case aS => exact (below_size BB)); (case aL => have := LMc2.out; omega); intro v111 w5 ho hb hg hat; rw [← Ny110.out] at ho; replace HB := Aside0.mk (hb); have HO112 := Aside0.mk (ho); clear HO109; clear ho hb hg hat))
  go_ret
  exact ⟨_, EV, by (with_reducible repeat (first | apply Kd.R_alloc | apply Kd.R_drewN | apply Kd.R_drew)); exact HO112.out, BB⟩
 ·rw [if_neg c2] at H
  exact absurd H (by simp)
end Go.Proofs.Ytpbhoembdoofiaa.B
namespace Go.Proofs.Ytpbhoembdoofiaa.B
open Go.RowKit Go.Proofs.YtpbhoembdoofiaaW.PrintWords Go.Proofs.YtpbhoembdoofiaaW.PrintLast Go.Proofs.YtpbhoembdoofiaaW.PrintMore Go.Proofs.YtpbhoembdoofiaaW.Zc
set_option linter.unusedVariables false
set_option linter.unusedSimpArgs false
def spec_l02Copy.f (l0 : List Int) : Option (List Int) := (some (([] : List Int) : List Int)).bind fun y113 => (if y113.length + l0.length < 17592186044416 then (some (y113 ++ l0)) else (none))
set_option maxHeartbeats 8000000 in
set_option maxRecDepth 100000 in
theorem spec_l02Copy.calls (A0 : Option Addr) (c0 : Nat) (l0 : List Int) (r : List Int) (w : World) (hr0 : Kd.C (Kd.int .i64) w A0 l0.length l0) (hc0 : l0.length ≤ c0) (h : spec_l02Copy.f l0 = some r) :
    Calls Try.prog 78 #[.slice A0 l0.length c0] w fun e w' => ∃ v0_ : Value, e = .returned (v0_) ∧ Kd.R (Kd.int .i64) 3 w' w.heap.size (fun _ => True) v0_ r ∧ Below w.heap.size w w' := by
 have HR0 := Aside0.mk hr0
 have HC0 := Aside0.mk hc0
 clear hr0 hc0
 have HB := Aside0.mk (Below.refl w.heap.size w)
 have H : ((some (([] : List Int) : List Int)).bind fun y113 => (if y113.length + l0.length < 17592186044416 then (some (y113 ++ l0)) else (none))) = some r := h
 clear h
 obtain ⟨y113, Ny113⟩ : ∃ y_ : List Int, Aside0 (y_ = (([] : List Int))) := ⟨_, ⟨rfl⟩⟩
 rw [← Ny113.out] at H
 (try rw [Option.bind_some] at H)
 by_cases c2 : y113.length + l0.length < 17592186044416
 ·rw [if_pos c2] at H
  have LMc2 := Aside0.mk c2
  clear c2
  obtain ⟨y116, Ny116⟩ : ∃ y_ : List Int, Aside0 (y_ = (y113 ++ l0)) := ⟨_, ⟨rfl⟩⟩
  rw [← Ny116.out] at H
  (try rw [Option.bind_some] at H)
  obtain rfl := Option.some.inj H
  go_enter Try.func78, Try.ntmps78
  go_wp2_with (first | ((with_reducible refine gate_dst (N := 3) rfl ?_); refine Kd.R_lit (Kd.int .i64) _ 3 ?hg (N := 3) ?hd (xs := ([] : List Int)) (inner := []) (ok := fun _ => True) (okp := fun _ => True) ?hr ?hp (fun _ hk => hk) trivial (Below.refl _ _) (Nat.le_refl _) (by simp) ?_; (case hd => rfl); (case hg => rfl); (case hr => exact GR); (case hp => exact (Reps.none _ _)); intro v114 w3 ho4 hb hg_ hnew_; clear hg_ hnew_; (first | rw [← Ny113.out] at ho4 | (simp only [Int.reduceToNat] at ho4; rw [← Ny113.out] at ho4)); have HO115 := rlB ho4; replace HB := bbB hb; clear hb ho4) | ((with_reducible refine gate_builtin (b := .append) (xs := #[.tmp 3, .tmp 4]) rfl ?_); at_builtin; refine Kd.R_append_rows (Kd.int .i64) (w0 := w) w.heap.size rfl (.tmp 3) (.tmp 4) 23 3 (.int .i64 0) 8 rfl Try.underlying23 info3 rfl (by decide) (by omega) v114 y113 l0 _ _ _ (fun _ => True) (fun _ => False) rfl rfl ?aO ?aR (fun _ _ h => h) (fun _ h => h.elim) ?aF ?aB ?aS ?aL ?_; (case aR => exact cZr (Kd.C_below HR0.out HB.out)); (case aB => exact BB); (case aF => exact (fun _ _ => trivial)); (case aO => exact (rZr HO115)); (case aS => exact (below_size BB)); (case aL => have := LMc2.out; omega); intro v117 w5 ho hb hg hat; rw [← Ny116.out] at ho; replace HB := Aside0.mk (hb); have HO118 := Aside0.mk (ho); clear HO115; clear ho hb hg hat))
  go_ret
  exact ⟨_, EV, by (with_reducible repeat (first | apply Kd.R_alloc | apply Kd.R_drewN | apply Kd.R_drew)); exact HO118.out, BB⟩
 ·rw [if_neg c2] at H
  exact absurd H (by simp)
end Go.Proofs.Ytpbhoembdoofiaa.B
namespace Go.Proofs.Ytpbhoembdoofiaa.B
open Go.RowKit Go.Proofs.YtpbhoembdoofiaaW.PrintWords Go.Proofs.YtpbhoembdoofiaaW.PrintLast Go.Proofs.YtpbhoembdoofiaaW.PrintMore Go.Proofs.YtpbhoembdoofiaaW.Zc
set_option linter.unusedVariables false
set_option linter.unusedSimpArgs false
def spec_l36Copy.f (l0_0 : List (S100)) (a0_1 : Int) (l0_2 : List Int) : Option ((List (S100)) × Int × List Int) := (spec_l19Copy.f l0_0).bind fun t121 => ((spec_l02Copy.f l0_2).bind fun t124 => (some (t121, a0_1, t124)))
def spec_l36Copy.T1 : Bool × List (List Nat × List Nat) := (true, [([], []), ([0], [0]), ([1], [1]), ([], []), ([3], [3]), ([], []), ([5], [5]), ([6, 2], [6]), ([2, 4, 7], [2, 4, 7]), ([8, 7, 0, 1, 2, 3, 4, 5, 6, 7, 8], [8])])
def spec_l36Copy.B1 : List Nat := [0, 1, 3, 0, 8, 0, 32, 103, 255, 511]
theorem spec_l36Copy.tab1 : rtab .any (opsOf Try.f49 1) = spec_l36Copy.T1 := by kernel_rfl
theorem spec_l36Copy.bits1 : waitsOk spec_l36Copy.T1.2 spec_l36Copy.B1 = true := by kernel_rfl
set_option maxHeartbeats 8000000 in
set_option maxRecDepth 100000 in
theorem spec_l36Copy.calls (A0_0 : Option Addr) (c0_0 : Nat) (l0_0 : List (S100)) (a0_1 : Int) (A0_2 : Option Addr) (c0_2 : Nat) (l0_2 : List Int) (r1 : List (S100)) (r2 : Int) (r3 : List Int) (w : World) (hr0_0 : Kd.C k100 w A0_0 l0_0.length l0_0) (hc0_0 : l0_0.length ≤ c0_0) (hr0_2 : Kd.C (Kd.int .i64) w A0_2 l0_2.length l0_2) (hc0_2 : l0_2.length ≤ c0_2) (h : spec_l36Copy.f l0_0 a0_1 l0_2 = some (r1, r2, r3)) :
    Calls Try.prog 49 #[.agg #[.slice A0_0 l0_0.length c0_0, .int .i64 a0_1, .slice A0_2 l0_2.length c0_2]] w fun e w' => ∃ v0_ v2_ : Value, e = .returned (.agg #[v0_, .int .i64 r2, v2_]) ∧ Kd.R k100 100 w' w.heap.size (fun _ => True) v0_ r1 ∧ Kd.R (Kd.int .i64) 3 w' w.heap.size (fun _ => True) v2_ r3 ∧ Below w.heap.size w w' := by
 have hu34 := Try.underlying34
 have HR0_0 := Aside0.mk hr0_0
 have HC0_0 := Aside0.mk hc0_0
 clear hr0_0 hc0_0
 have HR0_2 := Aside0.mk hr0_2
 have HC0_2 := Aside0.mk hc0_2
 clear hr0_2 hc0_2
 have HB := Aside0.mk (Below.refl w.heap.size w)
 have H : ((spec_l19Copy.f l0_0).bind fun t121 => ((spec_l02Copy.f l0_2).bind fun t124 => (some (t121, a0_1, t124)))) = some (r1, r2, r3) := h
 clear h
 obtain ⟨t121, A2, H⟩ := bsI H
 obtain ⟨t124, A3, H⟩ := bsI H
 simp only [Option.some.injEq, Prod.mk.injEq] at H
 obtain ⟨rfl, rfl, rfl⟩ := H
 go_enter Try.func49, Try.ntmps49
 try go_wp2_with (first | ((with_reducible refine bZx 1 (h := ?_)); refine bxE #[.slice A0_0 l0_0.length c0_0, .int .i64 a0_1, .slice A0_2 l0_2.length c0_2] 34 ?_; intro gb119 hg w4 hbox hb; have BK119 := Aside0.mk (hbox); have GE119 := szB hg; replace HB := bbB hb; clear hb hbox hg) | ((with_reducible refine bZx 2 (h := ?_)); refine bxE #[.slice none 0 0, .int .i64 0, .slice none 0 0] 34 ?_; intro gb120 hg w5 hbox hb; have BK120 := Aside0.mk (hbox); have GE120 := szB hg; replace HB := bbB hb; have NB119_120 := nlB BK119 hg; have NB120_119 := ngB BK119 hg; replace BK119 := kbB BK119 hb; clear hb hbox hg))
 replace BK119 := Aside0.mk (blk_drew BK119.out)
 replace BK120 := Aside0.mk (blk_drew BK120.out)
 replace HB := Aside0.mk (below_drew1 HB.out)
 refine start_ (n := 10) (S := fun w' => w'.cell? ⟨gb119, 0, none⟩ = some (.slice A0_0 l0_0.length c0_0) ∧ w'.cell? ⟨gb119, 1, none⟩ = some (.int .i64 a0_1) ∧ w'.cell? ⟨gb119, 2, none⟩ = some (.slice A0_2 l0_2.length c0_2)) (ds := []) (Array.replicate 10 false) (by kernel_rfl) rfl rfl ⟨kZc BK119 0, kZc BK119 1, kZc BK119 2⟩ (fun hHeld => ?_); refine with_tabW spec_l36Copy.tab1 spec_l36Copy.bits1 (fun HT_ HW_ => ?_)
 generalize w5.drew = w6 at BK119 BK120 HB hHeld ⊢
 refine pZu 0 3 HT_ (h := ?_)
 refine pZu 3 6 HT_ (h := ?_)
 refine pZu 5 8 HT_ (h := ?_)
 refine tZk 1 4 HT_ HW_ hHeld (h := ?_)
 refine tZk 4 7 HT_ HW_ hHeld (h := ?_)
 refine tZk 6 9 HT_ HW_ hHeld (h := ?_)
 refine oZn 2 (some 5) HT_ (h := fun K hK => ?_)
 refine goes_ Try.func77 (by kernel_rfl) rfl #[.slice A0_0 l0_0.length c0_0] (by rfl) rfl rfl MP ?_
 with_reducible refine (spec_l19Copy.calls _ _ l0_0 t121 _ ?side1 ?side2 A2.out).mono ?_
 (case side1 => exact cZr (Kd.C_below HR0_0.out HB.out))
 (case side2 => exact HC0_0.out)
 rintro e w7 ⟨v122, rfl, ho0, hb⟩
 refine ⟨_, rfl, ?_⟩
 have HO123 := rlB ho0
 replace BK119 := kbB BK119 hb
 replace BK120 := kbB BK120 hb
 replace HB := bbB hb
 (try clear hb)
 (try clear ho0)
 refine hK.out _ _ ⟨kZc BK119 0, kZc BK119 1, kZc BK119 2⟩ (fun hHeld => ?_)
 clear hK K
 refine nZm (h := ?_)
 refine oZn 7 (some 10) HT_ (h := fun K hK => ?_)
 refine goes_ Try.func78 (by kernel_rfl) rfl #[.slice A0_2 l0_2.length c0_2] (by rfl) rfl rfl MP ?_
 with_reducible refine (spec_l02Copy.calls _ _ l0_2 t124 _ ?side1 ?side2 A3.out).mono ?_
 (case side1 => exact cZr (Kd.C_below HR0_2.out HB.out))
 (case side2 => exact HC0_2.out)
 rintro e w8 ⟨v125, rfl, ho0, hb⟩
 refine ⟨_, rfl, ?_⟩
 replace HO123 := rbB HO123 hb
 have HO126 := rlB ho0
 replace BK119 := kbB BK119 hb
 replace BK120 := kbB BK120 hb
 replace HB := bbB hb
 (try clear hb)
 (try clear ho0)
 obtain ⟨Ao9, co9, eo9⟩ := Kd.R_slice HO126.out
 (first | subst eo9 | (obtain ⟨f4_, f5_⟩ := slI eo9; subst f4_; subst f5_))
 obtain ⟨Ao10, co10, eo10⟩ := Kd.R_slice HO123.out
 (first | subst eo10 | (obtain ⟨f4_, f5_⟩ := slI eo10; subst f4_; subst f5_))
 refine hK.out _ _ ⟨kZc BK119 0, kZc BK119 1, kZc BK119 2⟩ (fun hHeld => ?_)
 clear hK K
 refine nZm (h := ?_)
 refine pZu 8 11 HT_ (h := ?_)
 refine oZn 9 none HT_ (h := fun K hK => ?_)
 have hs11 := kZc BK120 0
 have hfs11 := blk_frozen BK120.out 0
 have hns11_0 := NB119_120.out
 have hms11_0 := NB120_119.out
 have hs12 := kZc BK120 1
 have hfs12 := blk_frozen BK120.out 1
 have hns12_0 := NB119_120.out
 have hms12_0 := NB120_119.out
 have hs13 := kZc BK120 2
 have hfs13 := blk_frozen BK120.out 2
 have hns13_0 := NB119_120.out
 have hms13_0 := NB120_119.out
 refine skip_ (w1 := ?_) (by rfl) rfl ?_ ?_
 rotate_left
 ·go_simp
  rfl
 refine hK.out _ _ ⟨((cell_far (p := ⟨gb120, _, none⟩) NB119_120.out _).trans (((cell_far (p := ⟨gb120, _, none⟩) NB119_120.out _).trans (((cell_far (p := ⟨gb120, _, none⟩) NB119_120.out _).trans (hHeld.1)))))), ((cell_far (p := ⟨gb120, _, none⟩) NB119_120.out _).trans (((cell_far (p := ⟨gb120, _, none⟩) NB119_120.out _).trans (((cell_far (p := ⟨gb120, _, none⟩) NB119_120.out _).trans (hHeld.2.1)))))), ((cell_far (p := ⟨gb120, _, none⟩) NB119_120.out _).trans (((cell_far (p := ⟨gb120, _, none⟩) NB119_120.out _).trans (((cell_far (p := ⟨gb120, _, none⟩) NB119_120.out _).trans (hHeld.2.2))))))⟩ (fun hHeld => ?_)
 clear hK K
 refine done_ (done_of HT_.out (by kernel_rfl)) ?_
 try go_wp2
 refine bodyPost_ret (results_cell_row rfl _ _ gb120 34 #[.slice Ao10 t121.length co10, .int .i64 a0_1, .slice Ao9 t124.length co9] (0, 0) _ rfl (kZq BK120) Try.underlying34 rfl (by kernel_rfl)) rfl ?_
 exact ⟨_, _, EV, rZz HO123, rZz HO126, BB⟩
end Go.Proofs.Ytpbhoembdoofiaa.B
namespace Go.Proofs.Ytpbhoembdoofiaa.B
open Go.RowKit Go.Proofs.YtpbhoembdoofiaaW.PrintWords Go.Proofs.YtpbhoembdoofiaaW.PrintLast Go.Proofs.YtpbhoembdoofiaaW.PrintMore Go.Proofs.YtpbhoembdoofiaaW.Zc
set_option linter.unusedVariables false
set_option linter.unusedSimpArgs false
def spec_l34Copy.f (l0 : List (S61)) : Option ((List (S61))) := (some (([] : List (S61)) : List (S61))).bind fun y127 => (if y127.length + l0.length < 4398046511104 then (some (y127 ++ l0)) else (none))
set_option maxHeartbeats 8000000 in
set_option maxRecDepth 100000 in
theorem spec_l34Copy.calls (A0 : Option Addr) (c0 : Nat) (l0 : List (S61)) (r : List (S61)) (w : World) (hr0 : Kd.C k61 w A0 l0.length l0) (hc0 : l0.length ≤ c0) (h : spec_l34Copy.f l0 = some r) :
    Calls Try.prog 50 #[.slice A0 l0.length c0] w fun e w' => ∃ v0_ : Value, e = .returned (v0_) ∧ Kd.R k61 61 w' w.heap.size (fun _ => True) v0_ r ∧ Below w.heap.size w w' := by
 have HR0 := Aside0.mk hr0
 have HC0 := Aside0.mk hc0
 clear hr0 hc0
 have HB := Aside0.mk (Below.refl w.heap.size w)
 have H : ((some (([] : List (S61)) : List (S61))).bind fun y127 => (if y127.length + l0.length < 4398046511104 then (some (y127 ++ l0)) else (none))) = some r := h
 clear h
 obtain ⟨y127, Ny127⟩ : ∃ y_ : List (S61), Aside0 (y_ = (([] : List (S61)))) := ⟨_, ⟨rfl⟩⟩
 rw [← Ny127.out] at H
 (try rw [Option.bind_some] at H)
 by_cases c2 : y127.length + l0.length < 4398046511104
 ·rw [if_pos c2] at H
  have LMc2 := Aside0.mk c2
  clear c2
  obtain ⟨y130, Ny130⟩ : ∃ y_ : List (S61), Aside0 (y_ = (y127 ++ l0)) := ⟨_, ⟨rfl⟩⟩
  rw [← Ny130.out] at H
  (try rw [Option.bind_some] at H)
  obtain rfl := Option.some.inj H
  go_enter Try.func50, Try.ntmps50
  go_wp2_with (first | ((with_reducible refine gate_dst (N := 3) rfl ?_); refine Kd.R_lit k61 _ 61 ?hg (N := 3) ?hd (xs := ([] : List (S61))) (inner := []) (ok := fun _ => True) (okp := fun _ => True) ?hr ?hp (fun _ hk => hk) trivial (Below.refl _ _) (Nat.le_refl _) (by simp) ?_; (case hd => rfl); (case hg => rfl); (case hr => exact GR); (case hp => exact (Reps.none _ _)); intro v128 w3 ho4 hb hg_ hnew_; clear hg_ hnew_; (first | rw [← Ny127.out] at ho4 | (simp only [Int.reduceToNat] at ho4; rw [← Ny127.out] at ho4)); have HO129 := rlB ho4; replace HB := bbB hb; clear hb ho4) | ((with_reducible refine gate_builtin (b := .append) (xs := #[.tmp 3, .tmp 4]) rfl ?_); at_builtin; refine Kd.R_append_rows k61 (w0 := w) w.heap.size rfl (.tmp 3) (.tmp 4) 35 61 (.agg #[(.int .i64 0), (.int .i64 0), (.int .i64 0), (.int .i64 0)]) 32 rfl Try.underlying35 info61 rfl (by decide) (by omega) v128 y127 l0 _ _ _ (fun _ => True) (fun _ => False) rfl rfl ?aO ?aR (fun _ _ h => h) (fun _ h => h.elim) ?aF ?aB ?aS ?aL ?_; (case aR => exact cZr (Kd.C_below HR0.out HB.out)); (case aB => exact BB); (case aF => exact (fun _ _ => trivial)); (case aO => exact (rZr HO129)); (case aS => exact (below_size BB)); (case aL => have := LMc2.out; omega); intro v131 w5 ho hb hg hat; rw [← Ny130.out] at ho; replace HB := Aside0.mk (hb); have HO132 := Aside0.mk (ho); clear HO129; clear ho hb hg hat))
  go_ret
  exact ⟨_, EV, by (with_reducible repeat (first | apply Kd.R_alloc | apply Kd.R_drewN | apply Kd.R_drew)); exact HO132.out, BB⟩
 ·rw [if_neg c2] at H
  exact absurd H (by simp)
end Go.Proofs.Ytpbhoembdoofiaa.B
namespace Go.Proofs.Ytpbhoembdoofiaa.B
open Go.RowKit Go.Proofs.YtpbhoembdoofiaaW.PrintWords Go.Proofs.YtpbhoembdoofiaaW.PrintLast Go.Proofs.YtpbhoembdoofiaaW.PrintMore Go.Proofs.YtpbhoembdoofiaaW.Zc
set_option linter.unusedVariables false
set_option linter.unusedSimpArgs false
def spec_l38Copy.f (l0_0 : List (S100)) (a0_1 : Int) (l0_2 : List Int) (a0_3 : Int) (a0_4 : Int) (l0_5 : List (S61)) : Option ((List (S100)) × Int × List Int × Int × Int × (List (S61))) := (spec_l36Copy.f l0_0 a0_1 l0_2).bind fun bt135 => ((spec_l34Copy.f l0_5).bind fun t142 => (some (bt135.1, bt135.2.1, bt135.2.2, a0_3, a0_4, t142)))
def spec_l38Copy.T1 : Bool × List (List Nat × List Nat) := (true, [([], []), ([0], [0]), ([1], [1]), ([], []), ([3], [3]), ([], []), ([5], [5]), ([], []), ([7], [7]), ([8, 2], [8]), ([2, 4, 6, 9], [2, 4, 6, 9]), ([10, 9, 0, 1, 2, 3, 4, 5, 6, 7, 8, 9, 10], [10])])
def spec_l38Copy.B1 : List Nat := [0, 1, 3, 0, 8, 0, 32, 0, 128, 391, 1023, 2047]
theorem spec_l38Copy.tab1 : rtab .any (opsOf Try.f24 1) = spec_l38Copy.T1 := by kernel_rfl
theorem spec_l38Copy.bits1 : waitsOk spec_l38Copy.T1.2 spec_l38Copy.B1 = true := by kernel_rfl
set_option maxHeartbeats 8000000 in
set_option maxRecDepth 100000 in
theorem spec_l38Copy.calls (A0_0 : Option Addr) (c0_0 : Nat) (l0_0 : List (S100)) (a0_1 : Int) (A0_2 : Option Addr) (c0_2 : Nat) (l0_2 : List Int) (a0_3 : Int) (a0_4 : Int) (A0_5 : Option Addr) (c0_5 : Nat) (l0_5 : List (S61)) (r1 : List (S100)) (r2 : Int) (r3 : List Int) (r4 : Int) (r5 : Int) (r6 : List (S61)) (w : World) (hr0_0 : Kd.C k100 w A0_0 l0_0.length l0_0) (hc0_0 : l0_0.length ≤ c0_0) (hr0_2 : Kd.C (Kd.int .i64) w A0_2 l0_2.length l0_2) (hc0_2 : l0_2.length ≤ c0_2) (hr0_5 : Kd.C k61 w A0_5 l0_5.length l0_5) (hc0_5 : l0_5.length ≤ c0_5) (h : spec_l38Copy.f l0_0 a0_1 l0_2 a0_3 a0_4 l0_5 = some (r1, r2, r3, r4, r5, r6)) :
    Calls Try.prog 24 #[.agg #[.slice A0_0 l0_0.length c0_0, .int .i64 a0_1, .slice A0_2 l0_2.length c0_2, .int .i64 a0_3, .int .i64 a0_4, .slice A0_5 l0_5.length c0_5]] w fun e w' => ∃ v0_ v2_ v5_ : Value, e = .returned (.agg #[v0_, .int .i64 r2, v2_, .int .i64 r4, .int .i64 r5, v5_]) ∧ Kd.R k100 100 w' w.heap.size (fun _ => True) v0_ r1 ∧ Kd.R (Kd.int .i64) 3 w' w.heap.size (fun _ => True) v2_ r3 ∧ Kd.R k61 61 w' w.heap.size (fun _ => True) v5_ r6 ∧ Below w.heap.size w w' := by
 have hu37 := Try.underlying37
 have hu34 := Try.underlying34
 have HR0_0 := Aside0.mk hr0_0
 have HC0_0 := Aside0.mk hc0_0
 clear hr0_0 hc0_0
 have HR0_2 := Aside0.mk hr0_2
 have HC0_2 := Aside0.mk hc0_2
 clear hr0_2 hc0_2
 have HR0_5 := Aside0.mk hr0_5
 have HC0_5 := Aside0.mk hc0_5
 clear hr0_5 hc0_5
 have HB := Aside0.mk (Below.refl w.heap.size w)
 have H : ((spec_l36Copy.f l0_0 a0_1 l0_2).bind fun bt135 => ((spec_l34Copy.f l0_5).bind fun t142 => (some (bt135.1, bt135.2.1, bt135.2.2, a0_3, a0_4, t142)))) = some (r1, r2, r3, r4, r5, r6) := h
 clear h
 obtain ⟨⟨t135, t138, t139⟩, A2, H⟩ := bsI H
 dsimp only at H
 obtain ⟨t142, A3, H⟩ := bsI H
 simp only [Option.some.injEq, Prod.mk.injEq] at H
 obtain ⟨rfl, rfl, rfl, rfl, rfl, rfl⟩ := H
 go_enter Try.func24, Try.ntmps24
 try go_wp2_with (first | ((with_reducible refine bZx 1 (h := ?_)); refine bxE #[.slice A0_0 l0_0.length c0_0, .int .i64 a0_1, .slice A0_2 l0_2.length c0_2, .int .i64 a0_3, .int .i64 a0_4, .slice A0_5 l0_5.length c0_5] 37 ?_; intro gb133 hg w4 hbox hb; have BK133 := Aside0.mk (hbox); have GE133 := szB hg; replace HB := bbB hb; clear hb hbox hg) | ((with_reducible refine bZx 2 (h := ?_)); refine bxE #[.slice none 0 0, .int .i64 0, .slice none 0 0, .int .i64 0, .int .i64 0, .slice none 0 0] 37 ?_; intro gb134 hg w5 hbox hb; have BK134 := Aside0.mk (hbox); have GE134 := szB hg; replace HB := bbB hb; have NB133_134 := nlB BK133 hg; have NB134_133 := ngB BK133 hg; replace BK133 := kbB BK133 hb; clear hb hbox hg))
 replace BK133 := Aside0.mk (blk_drew BK133.out)
 replace BK134 := Aside0.mk (blk_drew BK134.out)
 replace HB := Aside0.mk (below_drew1 HB.out)
 refine start_ (n := 12) (S := fun w' => w'.cell? ⟨gb133, 0, none⟩ = some (.slice A0_0 l0_0.length c0_0) ∧ w'.cell? ⟨gb133, 1, none⟩ = some (.int .i64 a0_1) ∧ w'.cell? ⟨gb133, 2, none⟩ = some (.slice A0_2 l0_2.length c0_2) ∧ w'.cell? ⟨gb133, 3, none⟩ = some (.int .i64 a0_3) ∧ w'.cell? ⟨gb133, 4, none⟩ = some (.int .i64 a0_4) ∧ w'.cell? ⟨gb133, 5, none⟩ = some (.slice A0_5 l0_5.length c0_5)) (ds := []) (Array.replicate 12 false) (by kernel_rfl) rfl rfl ⟨kZc BK133 0, kZc BK133 1, kZc BK133 2, kZc BK133 3, kZc BK133 4, kZc BK133 5⟩ (fun hHeld => ?_); refine with_tabW spec_l38Copy.tab1 spec_l38Copy.bits1 (fun HT_ HW_ => ?_)
 generalize w5.drew = w6 at BK133 BK134 HB hHeld ⊢
 refine pZu 0 3 HT_ (h := ?_)
 refine pZu 3 6 HT_ (h := ?_)
 refine pZu 5 8 HT_ (h := ?_)
 refine pZu 7 10 HT_ (h := ?_)
 refine tZk 1 4 HT_ HW_ hHeld (h := ?_)
 refine tZk 4 7 HT_ HW_ hHeld (h := ?_)
 refine tZk 6 9 HT_ HW_ hHeld (h := ?_)
 refine tZk 8 11 HT_ HW_ hHeld (h := ?_)
 refine oZn 2 (some 5) HT_ (h := fun K hK => ?_)
 refine goes_ Try.func49 (by kernel_rfl) rfl #[.agg #[.slice A0_0 l0_0.length c0_0, .int .i64 a0_1, .slice A0_2 l0_2.length c0_2]] (by rfl) rfl rfl MP ?_
 with_reducible refine (spec_l36Copy.calls _ _ l0_0 a0_1 _ _ l0_2 t135 t138 t139 _ ?side1 ?side2 ?side3 ?side4 A2.out).mono ?_
 (case side1 => exact cZr (Kd.C_below HR0_0.out HB.out))
 (case side2 => exact HC0_0.out)
 (case side3 => exact cZr (Kd.C_below HR0_2.out HB.out))
 (case side4 => exact HC0_2.out)
 rintro e w7 ⟨v136, v140, rfl, ho0, ho1, hb⟩
 refine ⟨_, rfl, ?_⟩
 have HO137 := rlB ho0
 have HO141 := rlB ho1
 replace BK133 := kbB BK133 hb
 replace BK134 := kbB BK134 hb
 replace HB := bbB hb
 (try clear hb)
 (try clear ho0)
 (try clear ho1)
 refine hK.out _ _ ⟨kZc BK133 0, kZc BK133 1, kZc BK133 2, kZc BK133 3, kZc BK133 4, kZc BK133 5⟩ (fun hHeld => ?_)
 clear hK K
 refine nZm (h := ?_)
 refine oZn 9 (some 12) HT_ (h := fun K hK => ?_)
 refine goes_ Try.func50 (by kernel_rfl) rfl #[.slice A0_5 l0_5.length c0_5] (by rfl) rfl rfl MP ?_
 with_reducible refine (spec_l34Copy.calls _ _ l0_5 t142 _ ?side1 ?side2 A3.out).mono ?_
 (case side1 => exact cZr (Kd.C_below HR0_5.out HB.out))
 (case side2 => exact HC0_5.out)
 rintro e w8 ⟨v143, rfl, ho0, hb⟩
 refine ⟨_, rfl, ?_⟩
 replace HO137 := rbB HO137 hb
 replace HO141 := rbB HO141 hb
 have HO144 := rlB ho0
 replace BK133 := kbB BK133 hb
 replace BK134 := kbB BK134 hb
 replace HB := bbB hb
 (try clear hb)
 (try clear ho0)
 obtain ⟨Ao9, co9, eo9⟩ := Kd.R_slice HO144.out
 (first | subst eo9 | (obtain ⟨f4_, f5_⟩ := slI eo9; subst f4_; subst f5_))
 obtain ⟨Ao10, co10, eo10⟩ := Kd.R_slice HO141.out
 (first | subst eo10 | (obtain ⟨f4_, f5_⟩ := slI eo10; subst f4_; subst f5_))
 obtain ⟨Ao11, co11, eo11⟩ := Kd.R_slice HO137.out
 (first | subst eo11 | (obtain ⟨f4_, f5_⟩ := slI eo11; subst f4_; subst f5_))
 refine hK.out _ _ ⟨kZc BK133 0, kZc BK133 1, kZc BK133 2, kZc BK133 3, kZc BK133 4, kZc BK133 5⟩ (fun hHeld => ?_)
 clear hK K
 refine nZm (h := ?_)
 refine pZu 10 13 HT_ (h := ?_)
 refine oZn 11 none HT_ (h := fun K hK => ?_)
 have hs12 := kZc BK134 0
 have hfs12 := blk_frozen BK134.out 0
 have hns12_0 := NB133_134.out
 have hms12_0 := NB134_133.out
 have hs13 := kZc BK134 1
 have hfs13 := blk_frozen BK134.out 1
 have hns13_0 := NB133_134.out
 have hms13_0 := NB134_133.out
 have hs14 := kZc BK134 2
 have hfs14 := blk_frozen BK134.out 2
 have hns14_0 := NB133_134.out
 have hms14_0 := NB134_133.out
 have hs15 := kZc BK134 3
 have hfs15 := blk_frozen BK134.out 3
 have hns15_0 := NB133_134.out
 have hms15_0 := NB134_133.out
 have hs16 := kZc BK134 4
 have hfs16 := blk_frozen BK134.out 4
 have hns16_0 := NB133_134.out
 have hms16_0 := NB134_133.out
 have hs17 := kZc BK134 5
 have hfs17 := blk_frozen BK134.out 5
 have hns17_0 := NB133_134.out
 have hms17_0 := NB134_133.out
 refine skip_ (w1 := ?_) (by rfl) rfl ?_ ?_
 rotate_left
 ·go_simp
  rfl
 refine hK.out _ _ ⟨((cell_far (p := ⟨gb134, _, none⟩) NB133_134.out _).trans (((cell_far (p := ⟨gb134, _, none⟩) NB133_134.out _).trans (((cell_far (p := ⟨gb134, _, none⟩) NB133_134.out _).trans (((cell_far (p := ⟨gb134, _, none⟩) NB133_134.out _).trans (((cell_far (p := ⟨gb134, _, none⟩) NB133_134.out _).trans (((cell_far (p := ⟨gb134, _, none⟩) NB133_134.out _).trans (hHeld.1)))))))))))), ((cell_far (p := ⟨gb134, _, none⟩) NB133_134.out _).trans (((cell_far (p := ⟨gb134, _, none⟩) NB133_134.out _).trans (((cell_far (p := ⟨gb134, _, none⟩) NB133_134.out _).trans (((cell_far (p := ⟨gb134, _, none⟩) NB133_134.out _).trans (((cell_far (p := ⟨gb134, _, none⟩) NB133_134.out _).trans (((cell_far (p := ⟨gb134, _, none⟩) NB133_134.out _).trans (hHeld.2.1)))))))))))), ((cell_far (p := ⟨gb134, _, none⟩) NB133_134.out _).trans (((cell_far (p := ⟨gb134, _, none⟩) NB133_134.out _).trans (((cell_far (p := ⟨gb134, _, none⟩) NB133_134.out _).trans (((cell_far (p := ⟨gb134, _, none⟩) NB133_134.out _).trans (((cell_far (p := ⟨gb134, _, none⟩) NB133_134.out _).trans (((cell_far (p := ⟨gb134, _, none⟩) NB133_134.out _).trans (hHeld.2.2.1)))))))))))), ((cell_far (p := ⟨gb134, _, none⟩) NB133_134.out _).trans (((cell_far (p := ⟨gb134, _, none⟩) NB133_134.out _).trans (((cell_far (p := ⟨gb134, _, none⟩) NB133_134.out _).trans (((cell_far (p := ⟨gb134, _, none⟩) NB133_134.out _).trans (((cell_far (p := ⟨gb134, _, none⟩) NB133_134.out _).trans (((cell_far (p := ⟨gb134, _, none⟩) NB133_134.out _).trans (hHeld.2.2.2.1)))))))))))), ((cell_far (p := ⟨gb134, _, none⟩) NB133_134.out _).trans (((cell_far (p := ⟨gb134, _, none⟩) NB133_134.out _).trans (((cell_far (p := ⟨gb134, _, none⟩) NB133_134.out _).trans (((cell_far (p := ⟨gb134, _, none⟩) NB133_134.out _).trans (((cell_far (p := ⟨gb134, _, none⟩) NB133_134.out _).trans (((cell_far (p := ⟨gb134, _, none⟩) NB133_134.out _).trans (hHeld.2.2.2.2.1)))))))))))), ((cell_far (p := ⟨gb134, _, none⟩) NB133_134.out _).trans (((cell_far (p := ⟨gb134, _, none⟩) NB133_134.out _).trans (((cell_far (p := ⟨gb134, _, none⟩) NB133_134.out _).trans (((cell_far (p := ⟨gb134, _, none⟩) NB133_134.out _).trans (((cell_far (p := ⟨gb134, _, none⟩) NB133_134.out _).trans (((cell_far (p := ⟨gb134, _, none⟩) NB133_134.out _).trans (hHeld.2.2.2.2.2))))))))))))⟩ (fun hHeld => ?_)
 clear hK K
 refine done_ (done_of HT_.out (by kernel_rfl)) ?_
 try go_wp2
 refine bodyPost_ret (results_cell_row rfl _ _ gb134 37 #[.slice Ao11 t135.length co11, .int .i64 t138, .slice Ao10 t139.length co10, .int .i64 a0_3, .int .i64 a0_4, .slice Ao9 t142.length co9] (0, 0) _ rfl (kZq BK134) Try.underlying37 rfl (by kernel_rfl)) rfl ?_
 exact ⟨_, _, _, EV, rZz HO137, rZz HO141, rZz HO144, BB⟩
end Go.Proofs.Ytpbhoembdoofiaa.B
namespace Go.Proofs.Ytpbhoembdoofiaa.B
open Go.RowKit Go.Proofs.YtpbhoembdoofiaaW.PrintWords Go.Proofs.YtpbhoembdoofiaaW.PrintLast Go.Proofs.YtpbhoembdoofiaaW.PrintMore Go.Proofs.YtpbhoembdoofiaaW.Zc
set_option linter.unusedVariables false
set_option linter.unusedSimpArgs false
theorem spec_LogOk.w_any (x a b : Int) (w : World) : Calls Try.prog 53 #[.int .i64 x, .int .i64 a, .int .i64 b] w fun e w' => e = .returned (.bool (inB x a b)) ∧ Drawn0 w w' := by
  refine spec_l01In.calls x a b (inB x a b) w ?_
  unfold spec_l01In.f inB
  by_cases h : x ≥ a
  · rw [if_pos h, decide_eq_true (show a ≤ x from h)]; rfl
  · rw [if_neg h, decide_eq_false (show ¬ a ≤ x from h)]; rfl
theorem spec_LogOk.q {x a b : Int} {w : World} {n : Nat} {r : Bool} (h : inB x a b = r) : Calls Try.prog 53 #[.int .i64 x, .int .i64 a, .int .i64 b] (w.drewN n) fun e w' => e = .returned (.bool r) ∧ ∃ m, w' = w.drewN m := by
  subst h
  exact Calls.quiet_of ((spec_LogOk.w_any x a b _).mono fun _ _ ⟨h1, h2⟩ => ⟨h1, h2.out⟩)
def spec_LogOk.f (l0 : List Ent) : Option Bool := some (logB l0)
set_option maxHeartbeats 4000000 in
set_option maxRecDepth 100000 in
theorem spec_LogOk.any (A0 : Option Addr) (c0 : Nat) (l0 : List Ent) (w : World) (hr0 : Kd.C k61 w A0 l0.length l0) (hc0 : l0.length ≤ c0) :
    Calls Try.prog 51 #[.slice A0 l0.length c0] w fun e w' => e = .returned (.bool (logB l0)) ∧ Below w.heap.size w w' := by
  have hlen := hr0.2.1
  have HR := Aside0.mk hr0
  have hu61 := Try.underlying61
  clear hr0
  go_enter Try.func51, Try.ntmps51
  go_wp2
  go_loopw [3] (fun i w' => ∃ k : Nat, k ≤ l0.length ∧ i = .int .i64 k ∧ Aside0 (logGo (prevM l0 k) (l0.drop k) = logGo 0 l0) ∧ Aside0 (Below w.heap.size w w')) (fun i _ => l0.length - (intOf i).toNat)
  case atStart => exact ⟨0, Nat.zero_le _, rfl, ⟨rfl⟩, ⟨by first | exact Below.refl _ _ | exact below_alloc (Below.refl _ _) _⟩⟩
  case round =>
    obtain ⟨k, hk, rfl, HP, HB⟩ := hrel
    by_cases hlt : k < l0.length
    · obtain ⟨ad, rfl, x0, x1, x2, x3⟩ := at_T61 HR.out k (by omega) (by omega)
      replace x0 := pw_cell_below HB.out x0
      replace x1 := pw_cell_below HB.out x1
      replace x2 := pw_cell_below HB.out x2
      replace x3 := pw_cell_below HB.out x3
      have hxd : (rd_T61 l0 (k : Int)) = l0.getD k z61 := by unfold rd_T61; simp only [Int.toNat_natCast]
      rw [hxd] at x0 x1 x2 x3
      clear hxd
      obtain ⟨e, HE⟩ : ∃ e, Aside0 (e = l0.getD k z61) := ⟨_, ⟨rfl⟩⟩
      rw [← HE.out] at x0 x1 x2 x3
      simp only [Int.toNat_natCast] at x0 x1 x2 x3
      have HLT := Aside0.mk hlt
      cases b1 : inB e.f0.f0 0 3
      ·go_wp2
       go_quiet ((first | (go_at_call_of 53 (Value.int .i64 e.f0.f0); exact spec_LogOk.q b1) | (go_at_call_of 53 (Value.int .i64 e.f0.f1); exact spec_LogOk.q b2) | (go_at_call_of 53 (Value.int .i64 e.f1); exact spec_LogOk.q b3) | (go_at_call_of 53 (Value.int .i64 e.f2); exact spec_LogOk.q b4)))
       go_wp2
       go_ret
       exact ⟨by rw [logB_no HLT.out HP.out HE.out (by simp only [entB, b1, Bool.and_false, Bool.false_and])]; rfl, BB⟩
      · cases b2 : inB e.f0.f1 0 39
        ·go_wp2
         go_quiet ((first | (go_at_call_of 53 (Value.int .i64 e.f0.f0); exact spec_LogOk.q b1) | (go_at_call_of 53 (Value.int .i64 e.f0.f1); exact spec_LogOk.q b2) | (go_at_call_of 53 (Value.int .i64 e.f1); exact spec_LogOk.q b3) | (go_at_call_of 53 (Value.int .i64 e.f2); exact spec_LogOk.q b4)))
         go_wp2
         go_ret
         exact ⟨by rw [logB_no HLT.out HP.out HE.out (by simp only [entB, b2, Bool.and_false, Bool.false_and])]; rfl, BB⟩
        · cases b3 : inB e.f1 0 2
          ·go_wp2
           go_quiet ((first | (go_at_call_of 53 (Value.int .i64 e.f0.f0); exact spec_LogOk.q b1) | (go_at_call_of 53 (Value.int .i64 e.f0.f1); exact spec_LogOk.q b2) | (go_at_call_of 53 (Value.int .i64 e.f1); exact spec_LogOk.q b3) | (go_at_call_of 53 (Value.int .i64 e.f2); exact spec_LogOk.q b4)))
           go_wp2
           go_ret
           exact ⟨by rw [logB_no HLT.out HP.out HE.out (by simp only [entB, b3, Bool.and_false, Bool.false_and])]; rfl, BB⟩
          · cases b4 : inB e.f2 0 100000
            ·go_wp2
             go_quiet ((first | (go_at_call_of 53 (Value.int .i64 e.f0.f0); exact spec_LogOk.q b1) | (go_at_call_of 53 (Value.int .i64 e.f0.f1); exact spec_LogOk.q b2) | (go_at_call_of 53 (Value.int .i64 e.f1); exact spec_LogOk.q b3) | (go_at_call_of 53 (Value.int .i64 e.f2); exact spec_LogOk.q b4)))
             go_wp2
             go_ret
             exact ⟨by rw [logB_no HLT.out HP.out HE.out (by simp only [entB, b4, Bool.and_false, Bool.false_and])]; rfl, BB⟩
            · by_cases hk0 : 0 < k
              · have hk1 : (0 : Int) < (k : Int) := by omega
                have hk2 : (1 : Int) ≤ (k : Int) := by omega
                have hk3 : (k : Int) - 1 < (l0.length : Int) := by omega
                have hk4 : (0 : Int) ≤ (k : Int) - 1 := by omega
                obtain ⟨ad', had, y0, y1, y2, y3⟩ := at_T61 HR.out ((k : Int) - 1) hk4 hk3
                cases had
                replace y3 := pw_cell_below HB.out y3
                clear y0 y1 y2
                obtain ⟨p, HPR⟩ : ∃ p, Aside0 (prevM l0 k = p) := ⟨_, ⟨rfl⟩⟩
                have hyd : (rd_T61 l0 ((k : Int) - 1)).f2 = p := by
                  rw [← HPR.out]
                  obtain ⟨j, rfl⟩ : ∃ j, k = j + 1 := ⟨k - 1, by omega⟩
                  unfold rd_T61 prevM
                  rw [show (((j + 1 : Nat) : Int) - 1).toNat = j from by omega]
                rw [hyd] at y3
                clear hyd
                have y4 := y3
                rw [show ((k : Int) - 1).toNat = k - 1 from by omega] at y4
                have y5 := fun o => pw_cell_below (below_alloc (Below.refl _ _) o) y4
                clear y3
                by_cases b5 : p ≤ e.f2
                · have b5' : decide (e.f2 < p) = false := decide_eq_false (by omega)
                  have hw : IntKind.i64.wrap ((k : Int) - 1) = (k : Int) - 1 := IntWalk.i64_in _ (by omega)
                  go_wp2
                  go_quiet ((first | (go_at_call_of 53 (Value.int .i64 e.f0.f0); exact spec_LogOk.q b1) | (go_at_call_of 53 (Value.int .i64 e.f0.f1); exact spec_LogOk.q b2) | (go_at_call_of 53 (Value.int .i64 e.f1); exact spec_LogOk.q b3) | (go_at_call_of 53 (Value.int .i64 e.f2); exact spec_LogOk.q b4)))
                  clear hw
                  go_wp2
                  go_roundw
                  case rel => exact ⟨k + 1, by omega, by go_num, ⟨logB_next HLT.out HP.out HE.out (by rw [entB_t b1 b2 b3 b4, Bool.true_and]; exact decide_eq_true (show prevM l0 k ≤ e.f2 by rw [HPR.out]; exact b5))⟩, ⟨BB⟩⟩
                  case measure => simp [intOf]; omega
                · have b5' : decide (e.f2 < p) = true := decide_eq_true (by omega)
                  have b5n := Aside0.mk (show decide (prevM l0 k ≤ e.f2) = false by rw [HPR.out]; exact decide_eq_false b5)
                  have hw : IntKind.i64.wrap ((k : Int) - 1) = (k : Int) - 1 := IntWalk.i64_in _ (by omega)
                  go_wp2
                  go_quiet ((first | (go_at_call_of 53 (Value.int .i64 e.f0.f0); exact spec_LogOk.q b1) | (go_at_call_of 53 (Value.int .i64 e.f0.f1); exact spec_LogOk.q b2) | (go_at_call_of 53 (Value.int .i64 e.f1); exact spec_LogOk.q b3) | (go_at_call_of 53 (Value.int .i64 e.f2); exact spec_LogOk.q b4)))
                  clear hw
                  go_wp2
                  go_ret
                  exact ⟨by rw [logB_no HLT.out HP.out HE.out (by simp only [b5n.out, Bool.and_false, Bool.false_and])]; rfl, BB⟩
              · have hk1 : decide ((0 : Int) < (k : Int)) = false := decide_eq_false (by omega)
                have HK0 := Aside0.mk (show prevM l0 k = 0 by obtain rfl : k = 0 := by omega
                                                              rfl)
                go_wp2
                go_quiet ((first | (go_at_call_of 53 (Value.int .i64 e.f0.f0); exact spec_LogOk.q b1) | (go_at_call_of 53 (Value.int .i64 e.f0.f1); exact spec_LogOk.q b2) | (go_at_call_of 53 (Value.int .i64 e.f1); exact spec_LogOk.q b3) | (go_at_call_of 53 (Value.int .i64 e.f2); exact spec_LogOk.q b4)))
                go_wp2
                go_roundw
                case rel => exact ⟨k + 1, by omega, by go_num, ⟨logB_next HLT.out HP.out HE.out (by rw [entB_t b1 b2 b3 b4, Bool.true_and]; exact decide_eq_true (by rw [HK0.out]; exact (inB_t b4).1))⟩, ⟨BB⟩⟩
                case measure => simp [intOf]; omega
    · have hz : k = l0.length := by omega
      have h1 := HP.out
      rw [hz, List.drop_length] at h1
      have H1 := Aside0.mk h1
      clear h1 hz
      by_cases h11 : l0.length ≤ 30
      · have d1 : decide ((l0.length : Int) ≤ (30 : Int)) = true := decide_eq_true (by omega)
        have d2 : decide (l0.length ≤ 30) = true := decide_eq_true h11
        go_wp2
        go_ret
        refine ⟨?_, HB.out⟩
        unfold logB
        rw [← H1.out, d2]
        rfl
      · have d1 : decide ((l0.length : Int) ≤ (30 : Int)) = false := decide_eq_false (by omega)
        have d2 : decide (l0.length ≤ 30) = false := decide_eq_false h11
        go_wp2
        go_ret
        refine ⟨?_, HB.out⟩
        unfold logB
        rw [d2, Bool.and_false]
        rfl
theorem spec_LogOk.calls (A0 : Option Addr) (c0 : Nat) (l0 : List (S61)) (r : Bool) (w : World) (hr0 : Kd.C k61 w A0 l0.length l0) (hc0 : l0.length ≤ c0) (h : spec_LogOk.f l0 = some r) :
    Calls Try.prog 51 #[.slice A0 l0.length c0] w fun e w' => e = .returned (.bool r) ∧ Below w.heap.size w w' := by
  cases h
  exact spec_LogOk.any A0 c0 l0 w hr0 hc0
end Go.Proofs.Ytpbhoembdoofiaa.B
namespace Go.Proofs.Ytpbhoembdoofiaa.B
open Go.RowKit Go.Proofs.YtpbhoembdoofiaaW.PrintWords Go.Proofs.YtpbhoembdoofiaaW.PrintLast Go.Proofs.YtpbhoembdoofiaaW.PrintMore Go.Proofs.YtpbhoembdoofiaaW.Zc
set_option linter.unusedVariables false
set_option linter.unusedSimpArgs false
def spec_AddEntry.f (l0 : List (S61)) (a1_0 : Int) (a1_1 : Int) (a1_2 : Int) (a1_3 : Int) : Option ((List (S61)) × Bool) := (spec_l34Copy.f l0).bind fun t146 => ((some (([(⟨(⟨a1_0, a1_1⟩ : S41), a1_2, a1_3⟩ : S61)] : List (S61)) : List (S61))).bind fun y149 => (if t146.length + y149.length < 4398046511104 then ((some (t146 ++ y149 : List (S61))).bind fun y152 => ((spec_LogOk.f l0).bind fun t155 => (if t155 = true then ((spec_LogOk.f y152).bind fun t156 => (if t156 = true then (some (y152, true)) else ((spec_l34Copy.f l0).bind fun t157 => (some (t157, false))))) else ((spec_l34Copy.f l0).bind fun t160 => (some (t160, false)))))) else (none)))
set_option maxHeartbeats 8000000 in
set_option maxRecDepth 100000 in
theorem spec_AddEntry.calls (A0 : Option Addr) (c0 : Nat) (l0 : List (S61)) (a1_0 : Int) (a1_1 : Int) (a1_2 : Int) (a1_3 : Int) (r1 : List (S61)) (r2 : Bool) (w : World) (hr0 : Kd.C k61 w A0 l0.length l0) (hc0 : l0.length ≤ c0) (h : spec_AddEntry.f l0 a1_0 a1_1 a1_2 a1_3 = some (r1, r2)) :
    Calls Try.prog 25 #[.slice A0 l0.length c0, .agg #[.int .i64 a1_0, .int .i64 a1_1, .int .i64 a1_2, .int .i64 a1_3]] w fun e w' => ∃ v0_ : Value, e = .returned (.tuple #[v0_, .bool r2]) ∧ Kd.R k61 61 w' w.heap.size (fun _ => True) v0_ r1 ∧ Below w.heap.size w w' := by
 have hu61 := Try.underlying61
 have HR0 := Aside0.mk hr0
 have HC0 := Aside0.mk hc0
 clear hr0 hc0
 have HB := Aside0.mk (Below.refl w.heap.size w)
 have H : ((spec_l34Copy.f l0).bind fun t146 => ((some (([(⟨(⟨a1_0, a1_1⟩ : S41), a1_2, a1_3⟩ : S61)] : List (S61)) : List (S61))).bind fun y149 => (if t146.length + y149.length < 4398046511104 then ((some (t146 ++ y149 : List (S61))).bind fun y152 => ((spec_LogOk.f l0).bind fun t155 => (if t155 = true then ((spec_LogOk.f y152).bind fun t156 => (if t156 = true then (some (y152, true)) else ((spec_l34Copy.f l0).bind fun t157 => (some (t157, false))))) else ((spec_l34Copy.f l0).bind fun t160 => (some (t160, false)))))) else (none)))) = some (r1, r2) := h
 clear h
 obtain ⟨t146, A3, H⟩ := bsI H
 obtain ⟨y149, Ny149⟩ : ∃ y_ : List (S61), Aside0 (y_ = (([(⟨(⟨a1_0, a1_1⟩ : S41), a1_2, a1_3⟩ : S61)] : List (S61)))) := ⟨_, ⟨rfl⟩⟩
 rw [← Ny149.out] at H
 (try rw [Option.bind_some] at H)
 by_cases c4 : t146.length + y149.length < 4398046511104
 ·rw [if_pos c4] at H
  have LMc4 := Aside0.mk c4
  clear c4
  obtain ⟨y152, Ny152⟩ : ∃ y_ : List (S61), Aside0 (y_ = (t146 ++ y149)) := ⟨_, ⟨rfl⟩⟩
  rw [← Ny152.out] at H
  (try rw [Option.bind_some] at H)
  obtain ⟨t155, A5, H⟩ := bsI H
  by_cases c6 : t155 = true
  ·subst c6
   rw [if_pos rfl] at H
   obtain ⟨t156, A7, H⟩ := bsI H
   by_cases c8 : t156 = true
   ·subst c8
    rw [if_pos rfl] at H
    simp only [Option.some.injEq, Prod.mk.injEq] at H
    obtain ⟨rfl, rfl⟩ := H
    go_enter Try.func25, Try.ntmps25
    try go_wp2_with (first | ((with_reducible refine bZx 3 (h := ?_)); refine bxE #[.int .i64 a1_0, .int .i64 a1_1, .int .i64 a1_2, .int .i64 a1_3] 61 ?_; intro gb145 hg w9 hbox hb; have BK145 := Aside0.mk (hbox); have GE145 := szB hg; replace HB := bbB hb; clear hb hbox hg))
    replace BK145 := Aside0.mk (blk_drew BK145.out)
    replace HB := Aside0.mk (below_drew1 HB.out)
    refine start_ (n := 6) (S := fun w' => w'.cell? ⟨gb145, 0, none⟩ = some (.int .i64 a1_0) ∧ w'.cell? ⟨gb145, 1, none⟩ = some (.int .i64 a1_1) ∧ w'.cell? ⟨gb145, 2, none⟩ = some (.int .i64 a1_2) ∧ w'.cell? ⟨gb145, 3, none⟩ = some (.int .i64 a1_3)) (ds := []) (Array.replicate 6 false) (by kernel_rfl) rfl rfl ⟨kZc BK145 0, kZc BK145 1, kZc BK145 2, kZc BK145 3⟩ (fun hHeld => ?_)
    generalize w9.drew = w10 at BK145 HB hHeld ⊢
    refine pure_ (i := 0) (N := some 7) (v := ?_) (a' := ?_) #[true, false, false, false, false, false] rfl rfl (by kernel_rfl) (fun _ _ _ h => h) (Or.inl ⟨by rfl, ?_⟩) ?_ ?_
    rotate_left
    ·intro w'
     go_simp
     with_reducible rfl
    rotate_left
    ·simp only [Act.put, List.setIfInBounds_toArray, List.set_cons_zero, List.set_cons_succ, i64_w, i32_w]
     rfl
    refine take_ (i := 2) (N := some 9) (v := ?_) (a' := ?_) #[true, false, true, false, false, false] rfl rfl (by kernel_rfl) (fun _ _ _ h => h) (Or.inl ⟨by rfl, ?_⟩) hHeld ?_ ?_
    rotate_left
    ·rintro w' ⟨s0, s1, s2, s3⟩
     go_simp
     with_reducible rfl
    rotate_left
    ·simp only [Act.put, List.setIfInBounds_toArray, List.set_cons_zero, List.set_cons_succ, i64_w, i32_w]
     rfl
    refine join_ (σ := Value × Value) 2 #[true, true, true, true, false, false] (fun s_ => [(8, s_.1), (10, s_.2)]) (fun s_ w' => (w'.cell? ⟨gb145, 0, none⟩ = some (.int .i64 a1_0) ∧ w'.cell? ⟨gb145, 1, none⟩ = some (.int .i64 a1_1) ∧ w'.cell? ⟨gb145, 2, none⟩ = some (.int .i64 a1_2) ∧ w'.cell? ⟨gb145, 3, none⟩ = some (.int .i64 a1_3)) ∧ (Kd.R k61 61 w' w.heap.size (fun k_ => some k_ ≠ (s_.2 : Value).ownBlock ∧ k_ ≠ gb145) s_.1 t146) ∧ (Kd.R k61 61 w' w.heap.size (fun k_ => some k_ ≠ (s_.1 : Value).ownBlock ∧ k_ ≠ gb145) s_.2 y149) ∧ (w'.heap[gb145]? = some (.cells #[.int .i64 a1_0, .int .i64 a1_1, .int .i64 a1_2, .int .i64 a1_3] 61 (0, 0))) ∧ (Below w.heap.size w w')) ?_ ?_
    rotate_left
    ·intro hCont
     refine two_ (i := 1) (j := 3) (Ni := some 8) (Nj := some 10) #[true, true, true, false, false, false] #[true, false, true, true, false, false] rfl rfl rfl rfl (by kernel_rfl) (by decide) (by decide) (fun K hK => ?_) (fun K hK => ?_)
     ·skip
      refine goes_ Try.func50 (by kernel_rfl) rfl #[.slice A0 l0.length c0] (by rfl) rfl rfl MP ?_
      with_reducible refine (spec_l34Copy.calls _ _ l0 t146 _ ?side1 ?side2 A3.out).mono ?_
      (case side1 => exact cZr (Kd.C_below HR0.out HB.out))
      (case side2 => exact HC0.out)
      rintro e w11 ⟨v147, rfl, ho0, hb⟩
      refine ⟨_, rfl, ?_⟩
      have HO148 := Aside0.mk (Kd.R_lower (Kd.R_newB ho0 (g := gb145) (o := .cells #[.int .i64 a1_0, .int .i64 a1_1, .int .i64 a1_2, .int .i64 a1_3] 61 (0, 0)) (kZb BK145)) (below_size BB))
      replace BK145 := kbB BK145 hb
      replace HB := bbB hb
      (try clear hb)
      (try clear ho0)
      refine hK.out _ _ ⟨kZc BK145 0, kZc BK145 1, kZc BK145 2, kZc BK145 3⟩ (fun hHeld => ?_)
      clear hK K
      refine nZm (h := ?_)
      refine one_ (i := 3) (N := some 10) #[true, true, true, true, false, false] rfl rfl (by kernel_rfl) (by decide) (fun K hK => ?_)
      refine Kd.R_lit_step k61 _ 61 ?hg (N := 10) ?hd (xs := ([(⟨(⟨a1_0, a1_1⟩ : S41), a1_2, a1_3⟩ : S61)] : List (S61))) (inner := [.int .i64 a1_0, .int .i64 a1_1, .int .i64 a1_2, .int .i64 a1_3]) (ok := fun _ => True) (okp := fun _ => True) ?hr ?hp (fun _ hk => hk) trivial (Below.refl _ _) (Nat.le_refl _) (by simp) ?_; (case hd => rfl); (case hg => rfl); (case hr => exact GR); (case hp => exact (Reps.c4 (show Kd.M k61 _ _ _ (⟨(⟨a1_0, a1_1⟩ : S41), a1_2, a1_3⟩ : S61) [.int .i64 a1_0, .int .i64 a1_1, .int .i64 a1_2, .int .i64 a1_3] from (k61_mkM _ _ _ (⟨(⟨a1_0, a1_1⟩ : S41), a1_2, a1_3⟩ : S61) )) (Reps.none _ _)))
      intro v150 w12 ho13 hb hg_ hnew_
      clear hg_ hnew_
      (first | rw [← Ny149.out] at ho13 | (simp only [Int.reduceToNat] at ho13; rw [← Ny149.out] at ho13))
      have HO151 := Aside0.mk (Kd.R_lower (Kd.R_newB (Kd.R_new' ho13 (Kd.R_lt (rZr HO148))) (g := gb145) (o := .cells #[.int .i64 a1_0, .int .i64 a1_1, .int .i64 a1_2, .int .i64 a1_3] 61 (0, 0)) (kZb BK145)) (below_size BB))
      replace HO148 := reB HO148 ho13 hb
      replace BK145 := kbB BK145 hb
      replace HB := bbB hb
      clear hb ho13
      refine hK.out _ _ ⟨kZc BK145 0, kZc BK145 1, kZc BK145 2, kZc BK145 3⟩ (fun hHeld => ?_)
      clear hK K
      refine nZm (h := ?_)
      exact nR (hCont (v147, v150) _ ⟨hHeld, (rM HO148 (fun _ hk => ⟨hk.2, hk.1.2⟩)), (rM HO151 (fun _ hk => ⟨hk.1.2, hk.2⟩)), (kZb BK145), BB⟩)
     ·skip
      refine Kd.R_lit_step k61 _ 61 ?hg (N := 10) ?hd (xs := ([(⟨(⟨a1_0, a1_1⟩ : S41), a1_2, a1_3⟩ : S61)] : List (S61))) (inner := [.int .i64 a1_0, .int .i64 a1_1, .int .i64 a1_2, .int .i64 a1_3]) (ok := fun _ => True) (okp := fun _ => True) ?hr ?hp (fun _ hk => hk) trivial (Below.refl _ _) (Nat.le_refl _) (by simp) ?_; (case hd => rfl); (case hg => rfl); (case hr => exact GR); (case hp => exact (Reps.c4 (show Kd.M k61 _ _ _ (⟨(⟨a1_0, a1_1⟩ : S41), a1_2, a1_3⟩ : S61) [.int .i64 a1_0, .int .i64 a1_1, .int .i64 a1_2, .int .i64 a1_3] from (k61_mkM _ _ _ (⟨(⟨a1_0, a1_1⟩ : S41), a1_2, a1_3⟩ : S61) )) (Reps.none _ _)))
      intro v150 w11 ho12 hb hg_ hnew_
      clear hg_ hnew_
      (first | rw [← Ny149.out] at ho12 | (simp only [Int.reduceToNat] at ho12; rw [← Ny149.out] at ho12))
      have HO151 := Aside0.mk (Kd.R_lower (Kd.R_newB ho12 (g := gb145) (o := .cells #[.int .i64 a1_0, .int .i64 a1_1, .int .i64 a1_2, .int .i64 a1_3] 61 (0, 0)) (kZb BK145)) (below_size BB))
      replace BK145 := kbB BK145 hb
      replace HB := bbB hb
      clear hb ho12
      refine hK.out _ _ ⟨kZc BK145 0, kZc BK145 1, kZc BK145 2, kZc BK145 3⟩ (fun hHeld => ?_)
      clear hK K
      refine nZm (h := ?_)
      refine one_ (i := 1) (N := some 8) #[true, true, true, true, false, false] rfl rfl (by kernel_rfl) (by decide) (fun K hK => ?_)
      refine goes_ Try.func50 (by kernel_rfl) rfl #[.slice A0 l0.length c0] (by rfl) rfl rfl MP ?_
      with_reducible refine (spec_l34Copy.calls _ _ l0 t146 _ ?side1 ?side2 A3.out).mono ?_
      (case side1 => exact cZr (Kd.C_below HR0.out HB.out))
      (case side2 => exact HC0.out)
      rintro e w13 ⟨v147, rfl, ho0, hb⟩
      refine ⟨_, rfl, ?_⟩
      have HO148 := Aside0.mk (Kd.R_lower (Kd.R_newB (Kd.R_new' ho0 (Kd.R_lt (rZr HO151))) (g := gb145) (o := .cells #[.int .i64 a1_0, .int .i64 a1_1, .int .i64 a1_2, .int .i64 a1_3] 61 (0, 0)) (kZb BK145)) (below_size BB))
      replace HO151 := reB HO151 ho0 hb
      replace BK145 := kbB BK145 hb
      replace HB := bbB hb
      (try clear hb)
      (try clear ho0)
      refine hK.out _ _ ⟨kZc BK145 0, kZc BK145 1, kZc BK145 2, kZc BK145 3⟩ (fun hHeld => ?_)
      clear hK K
      refine nZm (h := ?_)
      exact nR (hCont (v147, v150) _ ⟨hHeld, (rM HO148 (fun _ hk => ⟨hk.1.2, hk.2⟩)), (rM HO151 (fun _ hk => ⟨hk.2, hk.1.2⟩)), (kZb BK145), BB⟩)
    rintro ⟨v147, v150⟩ w14 ⟨hS_, h0_, h1_, h2_, h3_⟩
    have n0_ : Aside0 (Kd.R k61 61 w14 w.heap.size (fun k_ => some k_ ≠ (v150 : Value).ownBlock ∧ k_ ≠ gb145) v147 t146) := ⟨h0_⟩
    have n1_ : Aside0 (Kd.R k61 61 w14 w.heap.size (fun k_ => some k_ ≠ (v147 : Value).ownBlock ∧ k_ ≠ gb145) v150 y149) := ⟨h1_⟩
    have n2_ : Aside0 (w14.heap[gb145]? = some (.cells #[.int .i64 a1_0, .int .i64 a1_1, .int .i64 a1_2, .int .i64 a1_3] 61 (0, 0))) := ⟨h2_⟩
    have n3_ : Aside0 (Below w.heap.size w w14) := ⟨h3_⟩
    clear BK145
    clear HB
    clear h0_ h1_ h2_ h3_
    have HO148 := n0_
    have HO151 := n1_
    have BK145 := n2_
    have HB := n3_
    clear n0_ n1_ n2_ n3_
    have hHeld : w14.cell? ⟨gb145, 0, none⟩ = some (.int .i64 a1_0) ∧ w14.cell? ⟨gb145, 1, none⟩ = some (.int .i64 a1_1) ∧ w14.cell? ⟨gb145, 2, none⟩ = some (.int .i64 a1_2) ∧ w14.cell? ⟨gb145, 3, none⟩ = some (.int .i64 a1_3) := hS_
    obtain ⟨Ao16, co16, eo16⟩ := Kd.R_slice HO151.out
    (first | subst eo16 | (obtain ⟨f4_, f5_⟩ := slI eo16; subst f4_; subst f5_))
    refine norm_ (a' := ?_) ?_ ?_
    rotate_left
    ·simp only [putAll, Act.put, List.setIfInBounds_toArray, List.set_cons_zero, List.set_cons_succ]
     rfl
    refine one_ (i := 4) (N := some 11) #[true, true, true, true, true, false] rfl rfl (by kernel_rfl) (by decide) (fun K hK => ?_)
    refine Kd.R_append_rows_step k61 (w0 := w) w.heap.size (by rfl) (.tmp 8) (.tmp 10) 35 61 (.agg #[(.int .i64 0), (.int .i64 0), (.int .i64 0), (.int .i64 0)]) 32 rfl Try.underlying35 info61 rfl (by decide) (by omega) v147 t146 y149 _ _ _ (fun k_ => some k_ ≠ (.slice Ao16 y149.length co16 : Value).ownBlock ∧ k_ ≠ gb145) (fun _ => False) rfl rfl ?aO ?aR (fun _ _ h => h) (fun _ h => h.elim) ?aF ?aB ?aS ?aL ?_
    (case aR => exact rdC HO151)
    (case aB => exact BB)
    (case aF => exact (fun k_ hk => ⟨Kd.fresh' (Kd.R_lt (rZr HO151)) k_ hk, Kd.freshB (g := gb145) (o := .cells #[.int .i64 a1_0, .int .i64 a1_1, .int .i64 a1_2, .int .i64 a1_3] 61 (0, 0)) (kZb BK145) k_ hk⟩))
    (case aO => exact (rZr HO148))
    (case aS => exact (below_size BB))
    (case aL => have := LMc4.out; omega)
    intro v153 w15 ho hb hg hat
    rw [← Ny152.out] at ho
    replace BK145 := Aside0.mk (blk_grown (g := gb145) (o := .cells #[.int .i64 a1_0, .int .i64 a1_1, .int .i64 a1_2, .int .i64 a1_3] 61 (0, 0)) (kZb BK145) hg (Kd.R_away HO148.out (fun _ hk => hk.2)))
    replace HO151 := Aside0.mk (Kd.R_after (ok := (fun k_ => k_ ≠ gb145)) (rM HO151 (fun _ hk => ⟨hk.2, hk.1⟩)) hg hat)
    replace HB := Aside0.mk (hb)
    have HO154 := Aside0.mk (ho)
    clear HO148
    clear ho hb hg hat
    refine hK.out _ _ ⟨kZc BK145 0, kZc BK145 1, kZc BK145 2, kZc BK145 3⟩ (fun hHeld => ?_)
    clear hK K
    refine nZm (h := ?_)
    refine pure_ (i := 5) (N := some 6) (v := ?_) (a' := ?_) #[true, true, true, true, true, true] rfl rfl (by kernel_rfl) (fun _ _ _ h => h) (Or.inl ⟨by rfl, ?_⟩) ?_ ?_
    rotate_left
    ·intro w'
     go_simp
     with_reducible rfl
    rotate_left
    ·simp only [Act.put, List.setIfInBounds_toArray, List.set_cons_zero, List.set_cons_succ, i64_w, i32_w]
     rfl
    refine done_ (by kernel_rfl) ?_
    try go_wp2_with (first | ((with_reducible refine gZc 51 (h := ?_)); refine gL 13 Try.func51 #[.slice A0 l0.length c0] ?_; (with_reducible refine (spec_LogOk.calls _ _ l0 true _ ?side1 ?side2 A5.out).mono ?_); (case side1 => exact cZr (Kd.C_below HR0.out HB.out)); (case side2 => exact HC0.out); rintro e w17 ⟨rfl, hb⟩; refine ⟨_, rfl, ?_⟩; replace HO151 := rbB HO151 hb; replace HO154 := rbB HO154 hb; replace BK145 := kbB BK145 hb; replace HB := bbB hb; (try clear hb); obtain ⟨Ao18, co18, eo18⟩ := Kd.R_slice HO154.out; subst eo18) | (go_at_call 51; (with_reducible refine (spec_LogOk.calls _ _ y152 true _ ?side1 ?side2 A7.out).mono ?_); (case side1 => exact rdC HO154); (case side2 => exact (rd1 HO154)); rintro e w19 ⟨rfl, hb⟩; replace HO151 := rbB HO151 hb; replace HO154 := rbB HO154 hb; replace BK145 := kbB BK145 hb; replace HB := bbB hb; (try clear hb)))
    go_ret2
    exact ⟨_, EV, by (with_reducible repeat (first | apply Kd.R_alloc | apply Kd.R_drewN | apply Kd.R_drew)); exact Kd.R_mono HO154.out (fun _ hk => trivial), BB⟩
   ·replace c8 := Bool.eq_false_iff.mpr c8
    subst c8
    rw [if_neg nft] at H
    obtain ⟨t157, A20, H⟩ := bsI H
    simp only [Option.some.injEq, Prod.mk.injEq] at H
    obtain ⟨rfl, rfl⟩ := H
    go_enter Try.func25, Try.ntmps25
    try go_wp2_with (first | ((with_reducible refine bZx 3 (h := ?_)); refine bxE #[.int .i64 a1_0, .int .i64 a1_1, .int .i64 a1_2, .int .i64 a1_3] 61 ?_; intro gb145 hg w21 hbox hb; have BK145 := Aside0.mk (hbox); have GE145 := szB hg; replace HB := bbB hb; clear hb hbox hg))
    replace BK145 := Aside0.mk (blk_drew BK145.out)
    replace HB := Aside0.mk (below_drew1 HB.out)
    refine start_ (n := 6) (S := fun w' => w'.cell? ⟨gb145, 0, none⟩ = some (.int .i64 a1_0) ∧ w'.cell? ⟨gb145, 1, none⟩ = some (.int .i64 a1_1) ∧ w'.cell? ⟨gb145, 2, none⟩ = some (.int .i64 a1_2) ∧ w'.cell? ⟨gb145, 3, none⟩ = some (.int .i64 a1_3)) (ds := []) (Array.replicate 6 false) (by kernel_rfl) rfl rfl ⟨kZc BK145 0, kZc BK145 1, kZc BK145 2, kZc BK145 3⟩ (fun hHeld => ?_)
    generalize w21.drew = w22 at BK145 HB hHeld ⊢
    refine pure_ (i := 0) (N := some 7) (v := ?_) (a' := ?_) #[true, false, false, false, false, false] rfl rfl (by kernel_rfl) (fun _ _ _ h => h) (Or.inl ⟨by rfl, ?_⟩) ?_ ?_
    rotate_left
    ·intro w'
     go_simp
     with_reducible rfl
    rotate_left
    ·simp only [Act.put, List.setIfInBounds_toArray, List.set_cons_zero, List.set_cons_succ, i64_w, i32_w]
     rfl
    refine take_ (i := 2) (N := some 9) (v := ?_) (a' := ?_) #[true, false, true, false, false, false] rfl rfl (by kernel_rfl) (fun _ _ _ h => h) (Or.inl ⟨by rfl, ?_⟩) hHeld ?_ ?_
    rotate_left
    ·rintro w' ⟨s0, s1, s2, s3⟩
     go_simp
     with_reducible rfl
    rotate_left
    ·simp only [Act.put, List.setIfInBounds_toArray, List.set_cons_zero, List.set_cons_succ, i64_w, i32_w]
     rfl
    refine join_ (σ := Value × Value) 2 #[true, true, true, true, false, false] (fun s_ => [(8, s_.1), (10, s_.2)]) (fun s_ w' => (w'.cell? ⟨gb145, 0, none⟩ = some (.int .i64 a1_0) ∧ w'.cell? ⟨gb145, 1, none⟩ = some (.int .i64 a1_1) ∧ w'.cell? ⟨gb145, 2, none⟩ = some (.int .i64 a1_2) ∧ w'.cell? ⟨gb145, 3, none⟩ = some (.int .i64 a1_3)) ∧ (Kd.R k61 61 w' w.heap.size (fun k_ => some k_ ≠ (s_.2 : Value).ownBlock ∧ k_ ≠ gb145) s_.1 t146) ∧ (Kd.R k61 61 w' w.heap.size (fun k_ => some k_ ≠ (s_.1 : Value).ownBlock ∧ k_ ≠ gb145) s_.2 y149) ∧ (w'.heap[gb145]? = some (.cells #[.int .i64 a1_0, .int .i64 a1_1, .int .i64 a1_2, .int .i64 a1_3] 61 (0, 0))) ∧ (Below w.heap.size w w')) ?_ ?_
    rotate_left
    ·intro hCont
     refine two_ (i := 1) (j := 3) (Ni := some 8) (Nj := some 10) #[true, true, true, false, false, false] #[true, false, true, true, false, false] rfl rfl rfl rfl (by kernel_rfl) (by decide) (by decide) (fun K hK => ?_) (fun K hK => ?_)
     ·skip
      refine goes_ Try.func50 (by kernel_rfl) rfl #[.slice A0 l0.length c0] (by rfl) rfl rfl MP ?_
      with_reducible refine (spec_l34Copy.calls _ _ l0 t146 _ ?side1 ?side2 A3.out).mono ?_
      (case side1 => exact cZr (Kd.C_below HR0.out HB.out))
      (case side2 => exact HC0.out)
      rintro e w23 ⟨v147, rfl, ho0, hb⟩
      refine ⟨_, rfl, ?_⟩
      have HO148 := Aside0.mk (Kd.R_lower (Kd.R_newB ho0 (g := gb145) (o := .cells #[.int .i64 a1_0, .int .i64 a1_1, .int .i64 a1_2, .int .i64 a1_3] 61 (0, 0)) (kZb BK145)) (below_size BB))
      replace BK145 := kbB BK145 hb
      replace HB := bbB hb
      (try clear hb)
      (try clear ho0)
      refine hK.out _ _ ⟨kZc BK145 0, kZc BK145 1, kZc BK145 2, kZc BK145 3⟩ (fun hHeld => ?_)
      clear hK K
      refine nZm (h := ?_)
      refine one_ (i := 3) (N := some 10) #[true, true, true, true, false, false] rfl rfl (by kernel_rfl) (by decide) (fun K hK => ?_)
      refine Kd.R_lit_step k61 _ 61 ?hg (N := 10) ?hd (xs := ([(⟨(⟨a1_0, a1_1⟩ : S41), a1_2, a1_3⟩ : S61)] : List (S61))) (inner := [.int .i64 a1_0, .int .i64 a1_1, .int .i64 a1_2, .int .i64 a1_3]) (ok := fun _ => True) (okp := fun _ => True) ?hr ?hp (fun _ hk => hk) trivial (Below.refl _ _) (Nat.le_refl _) (by simp) ?_; (case hd => rfl); (case hg => rfl); (case hr => exact GR); (case hp => exact (Reps.c4 (show Kd.M k61 _ _ _ (⟨(⟨a1_0, a1_1⟩ : S41), a1_2, a1_3⟩ : S61) [.int .i64 a1_0, .int .i64 a1_1, .int .i64 a1_2, .int .i64 a1_3] from (k61_mkM _ _ _ (⟨(⟨a1_0, a1_1⟩ : S41), a1_2, a1_3⟩ : S61) )) (Reps.none _ _)))
      intro v150 w24 ho25 hb hg_ hnew_
      clear hg_ hnew_
      (first | rw [← Ny149.out] at ho25 | (simp only [Int.reduceToNat] at ho25; rw [← Ny149.out] at ho25))
      have HO151 := Aside0.mk (Kd.R_lower (Kd.R_newB (Kd.R_new' ho25 (Kd.R_lt (rZr HO148))) (g := gb145) (o := .cells #[.int .i64 a1_0, .int .i64 a1_1, .int .i64 a1_2, .int .i64 a1_3] 61 (0, 0)) (kZb BK145)) (below_size BB))
      replace HO148 := reB HO148 ho25 hb
      replace BK145 := kbB BK145 hb
      replace HB := bbB hb
      clear hb ho25
      refine hK.out _ _ ⟨kZc BK145 0, kZc BK145 1, kZc BK145 2, kZc BK145 3⟩ (fun hHeld => ?_)
      clear hK K
      refine nZm (h := ?_)
      exact nR (hCont (v147, v150) _ ⟨hHeld, (rM HO148 (fun _ hk => ⟨hk.2, hk.1.2⟩)), (rM HO151 (fun _ hk => ⟨hk.1.2, hk.2⟩)), (kZb BK145), BB⟩)
     ·skip
      refine Kd.R_lit_step k61 _ 61 ?hg (N := 10) ?hd (xs := ([(⟨(⟨a1_0, a1_1⟩ : S41), a1_2, a1_3⟩ : S61)] : List (S61))) (inner := [.int .i64 a1_0, .int .i64 a1_1, .int .i64 a1_2, .int .i64 a1_3]) (ok := fun _ => True) (okp := fun _ => True) ?hr ?hp (fun _ hk => hk) trivial (Below.refl _ _) (Nat.le_refl _) (by simp) ?_; (case hd => rfl); (case hg => rfl); (case hr => exact GR); (case hp => exact (Reps.c4 (show Kd.M k61 _ _ _ (⟨(⟨a1_0, a1_1⟩ : S41), a1_2, a1_3⟩ : S61) [.int .i64 a1_0, .int .i64 a1_1, .int .i64 a1_2, .int .i64 a1_3] from (k61_mkM _ _ _ (⟨(⟨a1_0, a1_1⟩ : S41), a1_2, a1_3⟩ : S61) )) (Reps.none _ _)))
      intro v150 w23 ho24 hb hg_ hnew_
      clear hg_ hnew_
      (first | rw [← Ny149.out] at ho24 | (simp only [Int.reduceToNat] at ho24; rw [← Ny149.out] at ho24))
      have HO151 := Aside0.mk (Kd.R_lower (Kd.R_newB ho24 (g := gb145) (o := .cells #[.int .i64 a1_0, .int .i64 a1_1, .int .i64 a1_2, .int .i64 a1_3] 61 (0, 0)) (kZb BK145)) (below_size BB))
      replace BK145 := kbB BK145 hb
      replace HB := bbB hb
      clear hb ho24
      refine hK.out _ _ ⟨kZc BK145 0, kZc BK145 1, kZc BK145 2, kZc BK145 3⟩ (fun hHeld => ?_)
      clear hK K
      refine nZm (h := ?_)
      refine one_ (i := 1) (N := some 8) #[true, true, true, true, false, false] rfl rfl (by kernel_rfl) (by decide) (fun K hK => ?_)
      refine goes_ Try.func50 (by kernel_rfl) rfl #[.slice A0 l0.length c0] (by rfl) rfl rfl MP ?_
      with_reducible refine (spec_l34Copy.calls _ _ l0 t146 _ ?side1 ?side2 A3.out).mono ?_
      (case side1 => exact cZr (Kd.C_below HR0.out HB.out))
      (case side2 => exact HC0.out)
      rintro e w25 ⟨v147, rfl, ho0, hb⟩
      refine ⟨_, rfl, ?_⟩
      have HO148 := Aside0.mk (Kd.R_lower (Kd.R_newB (Kd.R_new' ho0 (Kd.R_lt (rZr HO151))) (g := gb145) (o := .cells #[.int .i64 a1_0, .int .i64 a1_1, .int .i64 a1_2, .int .i64 a1_3] 61 (0, 0)) (kZb BK145)) (below_size BB))
      replace HO151 := reB HO151 ho0 hb
      replace BK145 := kbB BK145 hb
      replace HB := bbB hb
      (try clear hb)
      (try clear ho0)
      refine hK.out _ _ ⟨kZc BK145 0, kZc BK145 1, kZc BK145 2, kZc BK145 3⟩ (fun hHeld => ?_)
      clear hK K
      refine nZm (h := ?_)
      exact nR (hCont (v147, v150) _ ⟨hHeld, (rM HO148 (fun _ hk => ⟨hk.1.2, hk.2⟩)), (rM HO151 (fun _ hk => ⟨hk.2, hk.1.2⟩)), (kZb BK145), BB⟩)
    rintro ⟨v147, v150⟩ w26 ⟨hS_, h0_, h1_, h2_, h3_⟩
    have n0_ : Aside0 (Kd.R k61 61 w26 w.heap.size (fun k_ => some k_ ≠ (v150 : Value).ownBlock ∧ k_ ≠ gb145) v147 t146) := ⟨h0_⟩
    have n1_ : Aside0 (Kd.R k61 61 w26 w.heap.size (fun k_ => some k_ ≠ (v147 : Value).ownBlock ∧ k_ ≠ gb145) v150 y149) := ⟨h1_⟩
    have n2_ : Aside0 (w26.heap[gb145]? = some (.cells #[.int .i64 a1_0, .int .i64 a1_1, .int .i64 a1_2, .int .i64 a1_3] 61 (0, 0))) := ⟨h2_⟩
    have n3_ : Aside0 (Below w.heap.size w w26) := ⟨h3_⟩
    clear BK145
    clear HB
    clear h0_ h1_ h2_ h3_
    have HO148 := n0_
    have HO151 := n1_
    have BK145 := n2_
    have HB := n3_
    clear n0_ n1_ n2_ n3_
    have hHeld : w26.cell? ⟨gb145, 0, none⟩ = some (.int .i64 a1_0) ∧ w26.cell? ⟨gb145, 1, none⟩ = some (.int .i64 a1_1) ∧ w26.cell? ⟨gb145, 2, none⟩ = some (.int .i64 a1_2) ∧ w26.cell? ⟨gb145, 3, none⟩ = some (.int .i64 a1_3) := hS_
    obtain ⟨Ao28, co28, eo28⟩ := Kd.R_slice HO151.out
    (first | subst eo28 | (obtain ⟨f4_, f5_⟩ := slI eo28; subst f4_; subst f5_))
    refine norm_ (a' := ?_) ?_ ?_
    rotate_left
    ·simp only [putAll, Act.put, List.setIfInBounds_toArray, List.set_cons_zero, List.set_cons_succ]
     rfl
    refine one_ (i := 4) (N := some 11) #[true, true, true, true, true, false] rfl rfl (by kernel_rfl) (by decide) (fun K hK => ?_)
    refine Kd.R_append_rows_step k61 (w0 := w) w.heap.size (by rfl) (.tmp 8) (.tmp 10) 35 61 (.agg #[(.int .i64 0), (.int .i64 0), (.int .i64 0), (.int .i64 0)]) 32 rfl Try.underlying35 info61 rfl (by decide) (by omega) v147 t146 y149 _ _ _ (fun k_ => some k_ ≠ (.slice Ao28 y149.length co28 : Value).ownBlock ∧ k_ ≠ gb145) (fun _ => False) rfl rfl ?aO ?aR (fun _ _ h => h) (fun _ h => h.elim) ?aF ?aB ?aS ?aL ?_
    (case aR => exact rdC HO151)
    (case aB => exact BB)
    (case aF => exact (fun k_ hk => ⟨Kd.fresh' (Kd.R_lt (rZr HO151)) k_ hk, Kd.freshB (g := gb145) (o := .cells #[.int .i64 a1_0, .int .i64 a1_1, .int .i64 a1_2, .int .i64 a1_3] 61 (0, 0)) (kZb BK145) k_ hk⟩))
    (case aO => exact (rZr HO148))
    (case aS => exact (below_size BB))
    (case aL => have := LMc4.out; omega)
    intro v153 w27 ho hb hg hat
    rw [← Ny152.out] at ho
    replace BK145 := Aside0.mk (blk_grown (g := gb145) (o := .cells #[.int .i64 a1_0, .int .i64 a1_1, .int .i64 a1_2, .int .i64 a1_3] 61 (0, 0)) (kZb BK145) hg (Kd.R_away HO148.out (fun _ hk => hk.2)))
    replace HO151 := Aside0.mk (Kd.R_after (ok := (fun k_ => k_ ≠ gb145)) (rM HO151 (fun _ hk => ⟨hk.2, hk.1⟩)) hg hat)
    replace HB := Aside0.mk (hb)
    have HO154 := Aside0.mk (ho)
    clear HO148
    clear ho hb hg hat
    refine hK.out _ _ ⟨kZc BK145 0, kZc BK145 1, kZc BK145 2, kZc BK145 3⟩ (fun hHeld => ?_)
    clear hK K
    refine nZm (h := ?_)
    refine pure_ (i := 5) (N := some 6) (v := ?_) (a' := ?_) #[true, true, true, true, true, true] rfl rfl (by kernel_rfl) (fun _ _ _ h => h) (Or.inl ⟨by rfl, ?_⟩) ?_ ?_
    rotate_left
    ·intro w'
     go_simp
     with_reducible rfl
    rotate_left
    ·simp only [Act.put, List.setIfInBounds_toArray, List.set_cons_zero, List.set_cons_succ, i64_w, i32_w]
     rfl
    refine done_ (by kernel_rfl) ?_
    try go_wp2_with (first | ((with_reducible refine gZc 51 (h := ?_)); refine gL 13 Try.func51 #[.slice A0 l0.length c0] ?_; (with_reducible refine (spec_LogOk.calls _ _ l0 true _ ?side1 ?side2 A5.out).mono ?_); (case side1 => exact cZr (Kd.C_below HR0.out HB.out)); (case side2 => exact HC0.out); rintro e w29 ⟨rfl, hb⟩; refine ⟨_, rfl, ?_⟩; replace HO151 := rbB HO151 hb; replace HO154 := rbB HO154 hb; replace BK145 := kbB BK145 hb; replace HB := bbB hb; (try clear hb); obtain ⟨Ao30, co30, eo30⟩ := Kd.R_slice HO154.out; subst eo30) | (go_at_call 51; (with_reducible refine (spec_LogOk.calls _ _ y152 false _ ?side1 ?side2 A7.out).mono ?_); (case side1 => exact rdC HO154); (case side2 => exact (rd1 HO154)); rintro e w31 ⟨rfl, hb⟩; replace HO151 := rbB HO151 hb; replace HO154 := rbB HO154 hb; replace BK145 := kbB BK145 hb; replace HB := bbB hb; (try clear hb)) | ((with_reducible refine gZc 50 (h := ?_)); refine gL 21 Try.func50 #[.slice A0 l0.length c0] ?_; (with_reducible refine (spec_l34Copy.calls _ _ l0 t157 _ ?side1 ?side2 A20.out).mono ?_); (case side1 => exact cZr (Kd.C_below HR0.out HB.out)); (case side2 => exact HC0.out); rintro e w32 ⟨v158, rfl, ho0, hb⟩; refine ⟨_, rfl, ?_⟩; have HO159 := Aside0.mk (Kd.R_lower (Kd.R_newB (Kd.R_new' (Kd.R_new' ho0 (Kd.R_lt (rZr HO151))) (Kd.R_lt (rZr HO154))) (g := gb145) (o := .cells #[.int .i64 a1_0, .int .i64 a1_1, .int .i64 a1_2, .int .i64 a1_3] 61 (0, 0)) (kZb BK145)) (below_size BB)); replace HO151 := reB HO151 ho0 hb; replace HO154 := reB HO154 ho0 hb; replace BK145 := kbB BK145 hb; replace HB := bbB hb; (try clear hb); (try clear ho0)))
    go_ret2
    exact ⟨_, EV, by (with_reducible repeat (first | apply Kd.R_alloc | apply Kd.R_drewN | apply Kd.R_drew)); exact Kd.R_mono HO159.out (fun _ hk => trivial), BB⟩
  ·replace c6 := Bool.eq_false_iff.mpr c6
   subst c6
   rw [if_neg nft] at H
   obtain ⟨t160, A33, H⟩ := bsI H
   simp only [Option.some.injEq, Prod.mk.injEq] at H
   obtain ⟨rfl, rfl⟩ := H
   go_enter Try.func25, Try.ntmps25
   try go_wp2_with (first | ((with_reducible refine bZx 3 (h := ?_)); refine bxE #[.int .i64 a1_0, .int .i64 a1_1, .int .i64 a1_2, .int .i64 a1_3] 61 ?_; intro gb145 hg w34 hbox hb; have BK145 := Aside0.mk (hbox); have GE145 := szB hg; replace HB := bbB hb; clear hb hbox hg))
   replace BK145 := Aside0.mk (blk_drew BK145.out)
   replace HB := Aside0.mk (below_drew1 HB.out)
   refine start_ (n := 6) (S := fun w' => w'.cell? ⟨gb145, 0, none⟩ = some (.int .i64 a1_0) ∧ w'.cell? ⟨gb145, 1, none⟩ = some (.int .i64 a1_1) ∧ w'.cell? ⟨gb145, 2, none⟩ = some (.int .i64 a1_2) ∧ w'.cell? ⟨gb145, 3, none⟩ = some (.int .i64 a1_3)) (ds := []) (Array.replicate 6 false) (by kernel_rfl) rfl rfl ⟨kZc BK145 0, kZc BK145 1, kZc BK145 2, kZc BK145 3⟩ (fun hHeld => ?_)
   generalize w34.drew = w35 at BK145 HB hHeld ⊢
   refine pure_ (i := 0) (N := some 7) (v := ?_) (a' := ?_) #[true, false, false, false, false, false] rfl rfl (by kernel_rfl) (fun _ _ _ h => h) (Or.inl ⟨by rfl, ?_⟩) ?_ ?_
   rotate_left
   ·intro w'
    go_simp
    with_reducible rfl
   rotate_left
   ·simp only [Act.put, List.setIfInBounds_toArray, List.set_cons_zero, List.set_cons_succ, i64_w, i32_w]
    rfl
   refine take_ (i := 2) (N := some 9) (v := ?_) (a' := ?_) #[true, false, true, false, false, false] rfl rfl (by kernel_rfl) (fun _ _ _ h => h) (Or.inl ⟨by rfl, ?_⟩) hHeld ?_ ?_
   rotate_left
   ·rintro w' ⟨s0, s1, s2, s3⟩
    go_simp
    with_reducible rfl
   rotate_left
   ·simp only [Act.put, List.setIfInBounds_toArray, List.set_cons_zero, List.set_cons_succ, i64_w, i32_w]
    rfl
   refine join_ (σ := Value × Value) 2 #[true, true, true, true, false, false] (fun s_ => [(8, s_.1), (10, s_.2)]) (fun s_ w' => (w'.cell? ⟨gb145, 0, none⟩ = some (.int .i64 a1_0) ∧ w'.cell? ⟨gb145, 1, none⟩ = some (.int .i64 a1_1) ∧ w'.cell? ⟨gb145, 2, none⟩ = some (.int .i64 a1_2) ∧ w'.cell? ⟨gb145, 3, none⟩ = some (.int .i64 a1_3)) ∧ (Kd.R k61 61 w' w.heap.size (fun k_ => some k_ ≠ (s_.2 : Value).ownBlock ∧ k_ ≠ gb145) s_.1 t146) ∧ (Kd.R k61 61 w' w.heap.size (fun k_ => some k_ ≠ (s_.1 : Value).ownBlock ∧ k_ ≠ gb145) s_.2 y149) ∧ (w'.heap[gb145]? = some (.cells #[.int .i64 a1_0, .int .i64 a1_1, .int .i64 a1_2, .int .i64 a1_3] 61 (0, 0))) ∧ (Below w.heap.size w w')) ?_ ?_
   rotate_left
   ·intro hCont
    refine two_ (i := 1) (j := 3) (Ni := some 8) (Nj := some 10) #[true, true, true, false, false, false] #[true, false, true, true, false, false] rfl rfl rfl rfl (by kernel_rfl) (by decide) (by decide) (fun K hK => ?_) (fun K hK => ?_)
    ·skip
     refine goes_ Try.func50 (by kernel_rfl) rfl #[.slice A0 l0.length c0] (by rfl) rfl rfl MP ?_
     with_reducible refine (spec_l34Copy.calls _ _ l0 t146 _ ?side1 ?side2 A3.out).mono ?_
     (case side1 => exact cZr (Kd.C_below HR0.out HB.out))
     (case side2 => exact HC0.out)
     rintro e w36 ⟨v147, rfl, ho0, hb⟩
     refine ⟨_, rfl, ?_⟩
     have HO148 := Aside0.mk (Kd.R_lower (Kd.R_newB ho0 (g := gb145) (o := .cells #[.int .i64 a1_0, .int .i64 a1_1, .int .i64 a1_2, .int .i64 a1_3] 61 (0, 0)) (kZb BK145)) (below_size BB))
     replace BK145 := kbB BK145 hb
     replace HB := bbB hb
     (try clear hb)
     (try clear ho0)
     refine hK.out _ _ ⟨kZc BK145 0, kZc BK145 1, kZc BK145 2, kZc BK145 3⟩ (fun hHeld => ?_)
     clear hK K
     refine nZm (h := ?_)
     refine one_ (i := 3) (N := some 10) #[true, true, true, true, false, false] rfl rfl (by kernel_rfl) (by decide) (fun K hK => ?_)
     refine Kd.R_lit_step k61 _ 61 ?hg (N := 10) ?hd (xs := ([(⟨(⟨a1_0, a1_1⟩ : S41), a1_2, a1_3⟩ : S61)] : List (S61))) (inner := [.int .i64 a1_0, .int .i64 a1_1, .int .i64 a1_2, .int .i64 a1_3]) (ok := fun _ => True) (okp := fun _ => True) ?hr ?hp (fun _ hk => hk) trivial (Below.refl _ _) (Nat.le_refl _) (by simp) ?_; (case hd => rfl); (case hg => rfl); (case hr => exact GR); (case hp => exact (Reps.c4 (show Kd.M k61 _ _ _ (⟨(⟨a1_0, a1_1⟩ : S41), a1_2, a1_3⟩ : S61) [.int .i64 a1_0, .int .i64 a1_1, .int .i64 a1_2, .int .i64 a1_3] from (k61_mkM _ _ _ (⟨(⟨a1_0, a1_1⟩ : S41), a1_2, a1_3⟩ : S61) )) (Reps.none _ _)))
     intro v150 w37 ho38 hb hg_ hnew_
     clear hg_ hnew_
     (first | rw [← Ny149.out] at ho38 | (simp only [Int.reduceToNat] at ho38; rw [← Ny149.out] at ho38))
     have HO151 := Aside0.mk (Kd.R_lower (Kd.R_newB (Kd.R_new' ho38 (Kd.R_lt (rZr HO148))) (g := gb145) (o := .cells #[.int .i64 a1_0, .int .i64 a1_1, .int .i64 a1_2, .int .i64 a1_3] 61 (0, 0)) (kZb BK145)) (below_size BB))
     replace HO148 := reB HO148 ho38 hb
     replace BK145 := kbB BK145 hb
     replace HB := bbB hb
     clear hb ho38
     refine hK.out _ _ ⟨kZc BK145 0, kZc BK145 1, kZc BK145 2, kZc BK145 3⟩ (fun hHeld => ?_)
     clear hK K
     refine nZm (h := ?_)
     exact nR (hCont (v147, v150) _ ⟨hHeld, (rM HO148 (fun _ hk => ⟨hk.2, hk.1.2⟩)), (rM HO151 (fun _ hk => ⟨hk.1.2, hk.2⟩)), (kZb BK145), BB⟩)
    ·skip
     refine Kd.R_lit_step k61 _ 61 ?hg (N := 10) ?hd (xs := ([(⟨(⟨a1_0, a1_1⟩ : S41), a1_2, a1_3⟩ : S61)] : List (S61))) (inner := [.int .i64 a1_0, .int .i64 a1_1, .int .i64 a1_2, .int .i64 a1_3]) (ok := fun _ => True) (okp := fun _ => True) ?hr ?hp (fun _ hk => hk) trivial (Below.refl _ _) (Nat.le_refl _) (by simp) ?_; (case hd => rfl); (case hg => rfl); (case hr => exact GR); (case hp => exact (Reps.c4 (show Kd.M k61 _ _ _ (⟨(⟨a1_0, a1_1⟩ : S41), a1_2, a1_3⟩ : S61) [.int .i64 a1_0, .int .i64 a1_1, .int .i64 a1_2, .int .i64 a1_3] from (k61_mkM _ _ _ (⟨(⟨a1_0, a1_1⟩ : S41), a1_2, a1_3⟩ : S61) )) (Reps.none _ _)))
     intro v150 w36 ho37 hb hg_ hnew_
     clear hg_ hnew_
     (first | rw [← Ny149.out] at ho37 | (simp only [Int.reduceToNat] at ho37; rw [← Ny149.out] at ho37))
     have HO151 := Aside0.mk (Kd.R_lower (Kd.R_newB ho37 (g := gb145) (o := .cells #[.int .i64 a1_0, .int .i64 a1_1, .int .i64 a1_2, .int .i64 a1_3] 61 (0, 0)) (kZb BK145)) (below_size BB))
     replace BK145 := kbB BK145 hb
     replace HB := bbB hb
     clear hb ho37
     refine hK.out _ _ ⟨kZc BK145 0, kZc BK145 1, kZc BK145 2, kZc BK145 3⟩ (fun hHeld => ?_)
     clear hK K
     refine nZm (h := ?_)
     refine one_ (i := 1) (N := some 8) #[true, true, true, true, false, false] rfl rfl (by kernel_rfl) (by decide) (fun K hK => ?_)
     refine goes_ Try.func50 (by kernel_rfl) rfl #[.slice A0 l0.length c0] (by rfl) rfl rfl MP ?_
     with_reducible refine (spec_l34Copy.calls _ _ l0 t146 _ ?side1 ?side2 A3.out).mono ?_
     (case side1 => exact cZr (Kd.C_below HR0.out HB.out))
     (case side2 => exact HC0.out)
     rintro e w38 ⟨v147, rfl, ho0, hb⟩
     refine ⟨_, rfl, ?_⟩
     have HO148 := Aside0.mk (Kd.R_lower (Kd.R_newB (Kd.R_new' ho0 (Kd.R_lt (rZr HO151))) (g := gb145) (o := .cells #[.int .i64 a1_0, .int .i64 a1_1, .int .i64 a1_2, .int .i64 a1_3] 61 (0, 0)) (kZb BK145)) (below_size BB))
     replace HO151 := reB HO151 ho0 hb
     replace BK145 := kbB BK145 hb
     replace HB := bbB hb
     (try clear hb)
     (try clear ho0)
     refine hK.out _ _ ⟨kZc BK145 0, kZc BK145 1, kZc BK145 2, kZc BK145 3⟩ (fun hHeld => ?_)
     clear hK K
     refine nZm (h := ?_)
     exact nR (hCont (v147, v150) _ ⟨hHeld, (rM HO148 (fun _ hk => ⟨hk.1.2, hk.2⟩)), (rM HO151 (fun _ hk => ⟨hk.2, hk.1.2⟩)), (kZb BK145), BB⟩)
   rintro ⟨v147, v150⟩ w39 ⟨hS_, h0_, h1_, h2_, h3_⟩
   have n0_ : Aside0 (Kd.R k61 61 w39 w.heap.size (fun k_ => some k_ ≠ (v150 : Value).ownBlock ∧ k_ ≠ gb145) v147 t146) := ⟨h0_⟩
   have n1_ : Aside0 (Kd.R k61 61 w39 w.heap.size (fun k_ => some k_ ≠ (v147 : Value).ownBlock ∧ k_ ≠ gb145) v150 y149) := ⟨h1_⟩
   have n2_ : Aside0 (w39.heap[gb145]? = some (.cells #[.int .i64 a1_0, .int .i64 a1_1, .int .i64 a1_2, .int .i64 a1_3] 61 (0, 0))) := ⟨h2_⟩
   have n3_ : Aside0 (Below w.heap.size w w39) := ⟨h3_⟩
   clear BK145
   clear HB
   clear h0_ h1_ h2_ h3_
   have HO148 := n0_
   have HO151 := n1_
   have BK145 := n2_
   have HB := n3_
   clear n0_ n1_ n2_ n3_
   have hHeld : w39.cell? ⟨gb145, 0, none⟩ = some (.int .i64 a1_0) ∧ w39.cell? ⟨gb145, 1, none⟩ = some (.int .i64 a1_1) ∧ w39.cell? ⟨gb145, 2, none⟩ = some (.int .i64 a1_2) ∧ w39.cell? ⟨gb145, 3, none⟩ = some (.int .i64 a1_3) := hS_
   obtain ⟨Ao41, co41, eo41⟩ := Kd.R_slice HO151.out
   (first | subst eo41 | (obtain ⟨f4_, f5_⟩ := slI eo41; subst f4_; subst f5_))
   refine norm_ (a' := ?_) ?_ ?_
   rotate_left
   ·simp only [putAll, Act.put, List.setIfInBounds_toArray, List.set_cons_zero, List.set_cons_succ]
    rfl
   refine one_ (i := 4) (N := some 11) #[true, true, true, true, true, false] rfl rfl (by kernel_rfl) (by decide) (fun K hK => ?_)
   refine Kd.R_append_rows_step k61 (w0 := w) w.heap.size (by rfl) (.tmp 8) (.tmp 10) 35 61 (.agg #[(.int .i64 0), (.int .i64 0), (.int .i64 0), (.int .i64 0)]) 32 rfl Try.underlying35 info61 rfl (by decide) (by omega) v147 t146 y149 _ _ _ (fun k_ => some k_ ≠ (.slice Ao41 y149.length co41 : Value).ownBlock ∧ k_ ≠ gb145) (fun _ => False) rfl rfl ?aO ?aR (fun _ _ h => h) (fun _ h => h.elim) ?aF ?aB ?aS ?aL ?_
   (case aR => exact rdC HO151)
   (case aB => exact BB)
   (case aF => exact (fun k_ hk => ⟨Kd.fresh' (Kd.R_lt (rZr HO151)) k_ hk, Kd.freshB (g := gb145) (o := .cells #[.int .i64 a1_0, .int .i64 a1_1, .int .i64 a1_2, .int .i64 a1_3] 61 (0, 0)) (kZb BK145) k_ hk⟩))
   (case aO => exact (rZr HO148))
   (case aS => exact (below_size BB))
   (case aL => have := LMc4.out; omega)
   intro v153 w40 ho hb hg hat
   rw [← Ny152.out] at ho
   replace BK145 := Aside0.mk (blk_grown (g := gb145) (o := .cells #[.int .i64 a1_0, .int .i64 a1_1, .int .i64 a1_2, .int .i64 a1_3] 61 (0, 0)) (kZb BK145) hg (Kd.R_away HO148.out (fun _ hk => hk.2)))
   replace HO151 := Aside0.mk (Kd.R_after (ok := (fun k_ => k_ ≠ gb145)) (rM HO151 (fun _ hk => ⟨hk.2, hk.1⟩)) hg hat)
   replace HB := Aside0.mk (hb)
   have HO154 := Aside0.mk (ho)
   clear HO148
   clear ho hb hg hat
   refine hK.out _ _ ⟨kZc BK145 0, kZc BK145 1, kZc BK145 2, kZc BK145 3⟩ (fun hHeld => ?_)
   clear hK K
   refine nZm (h := ?_)
   refine pure_ (i := 5) (N := some 6) (v := ?_) (a' := ?_) #[true, true, true, true, true, true] rfl rfl (by kernel_rfl) (fun _ _ _ h => h) (Or.inl ⟨by rfl, ?_⟩) ?_ ?_
   rotate_left
   ·intro w'
    go_simp
    with_reducible rfl
   rotate_left
   ·simp only [Act.put, List.setIfInBounds_toArray, List.set_cons_zero, List.set_cons_succ, i64_w, i32_w]
    rfl
   refine done_ (by kernel_rfl) ?_
   try go_wp2_with (first | ((with_reducible refine gZc 51 (h := ?_)); refine gL 13 Try.func51 #[.slice A0 l0.length c0] ?_; (with_reducible refine (spec_LogOk.calls _ _ l0 false _ ?side1 ?side2 A5.out).mono ?_); (case side1 => exact cZr (Kd.C_below HR0.out HB.out)); (case side2 => exact HC0.out); rintro e w42 ⟨rfl, hb⟩; refine ⟨_, rfl, ?_⟩; replace HO151 := rbB HO151 hb; replace HO154 := rbB HO154 hb; replace BK145 := kbB BK145 hb; replace HB := bbB hb; (try clear hb)) | ((with_reducible refine gZc 50 (h := ?_)); refine gL 21 Try.func50 #[.slice A0 l0.length c0] ?_; (with_reducible refine (spec_l34Copy.calls _ _ l0 t160 _ ?side1 ?side2 A33.out).mono ?_); (case side1 => exact cZr (Kd.C_below HR0.out HB.out)); (case side2 => exact HC0.out); rintro e w43 ⟨v161, rfl, ho0, hb⟩; refine ⟨_, rfl, ?_⟩; have HO162 := Aside0.mk (Kd.R_lower (Kd.R_newB (Kd.R_new' (Kd.R_new' ho0 (Kd.R_lt (rZr HO151))) (Kd.R_lt (rZr HO154))) (g := gb145) (o := .cells #[.int .i64 a1_0, .int .i64 a1_1, .int .i64 a1_2, .int .i64 a1_3] 61 (0, 0)) (kZb BK145)) (below_size BB)); replace HO151 := reB HO151 ho0 hb; replace HO154 := reB HO154 ho0 hb; replace BK145 := kbB BK145 hb; replace HB := bbB hb; (try clear hb); (try clear ho0)))
   go_ret2
   exact ⟨_, EV, by (with_reducible repeat (first | apply Kd.R_alloc | apply Kd.R_drewN | apply Kd.R_drew)); exact Kd.R_mono HO162.out (fun _ hk => trivial), BB⟩
 ·rw [if_neg c4] at H
  exact absurd H (by simp)
end Go.Proofs.Ytpbhoembdoofiaa.B
namespace Go.Proofs.Ytpbhoembdoofiaa.B
open Go.RowKit Go.Proofs.YtpbhoembdoofiaaW.PrintWords Go.Proofs.YtpbhoembdoofiaaW.PrintLast Go.Proofs.YtpbhoembdoofiaaW.PrintMore Go.Proofs.YtpbhoembdoofiaaW.Zc
set_option linter.unusedVariables false
set_option linter.unusedSimpArgs false
def spec_ShopOk.f (k : Nat) (l0_0 : List (S100)) (a0_1 : Int) (l0_2 : List Int) (a0_3 : Int) (a0_4 : Int) (l0_5 : List (S61)) : Option (Bool) := (spec_WorkOk.f k l0_0 a0_1 l0_2).bind fun t176 => (if t176 = true then ((spec_LogOk.f l0_5).bind fun t177 => (if t177 = true then ((spec_l01In.f a0_3 (-10) 40).bind fun t178 => (if t178 = true then ((spec_l01In.f a0_4 0 100000).bind fun t179 => (if t179 = true then (if (l0_5.length : Int) = 0 then (some true) else (if 0 ≤ (wrap64 ((l0_5.length : Int) - 1)) then (if (wrap64 ((l0_5.length : Int) - 1)) < (l0_5.length : Int) then (some (decide (((rd_T61 l0_5 (wrap64 ((l0_5.length : Int) - 1))).f2) ≤ a0_4))) else (none)) else (none))) else (some false))) else (some false))) else (some false))) else (some false))
def spec_ShopOk.T2 : Bool × List (List Nat × List Nat) := (true, [([], []), ([0], [0]), ([1], [1]), ([2, 2], [2]), ([3], [3]), ([4, 3], [3, 4]), ([5, 3, 3], [3, 5]), ([3, 6], [3, 6]), ([7, 6], [7]), ([8], [8]), ([9, 8], [8, 9]), ([10, 8, 8], [8, 10]), ([8, 11], [8, 11]), ([12, 11], [12]), ([13], [13]), ([14, 13], [13, 14]), ([15, 13, 13], [13, 15]), ([13, 16], [13, 16]), ([17, 16], [17]), ([18], [18]), ([19, 18], [18, 19]), ([20, 18, 18], [18, 20]), ([21], [21]), ([22, 21], [21, 22]), ([21], [21]), ([24, 21], [21, 24]), ([23, 25, 21], [21, 23, 25]), ([26, 21], [21, 26]), ([27, 21], [21, 27]), ([21], [21]), ([29, 21], [21, 29]), ([28, 30, 21], [21, 28, 30]), ([21, 31, 18], [18, 21, 31]), ([18, 32], [18, 32]), ([33, 21, 0, 1, 2, 3, 4, 5, 6, 7, 8, 9, 10, 11, 12, 13, 14, 15, 16, 17, 18, 19, 20, 21, 22, 23, 24, 25, 26, 27, 28, 29, 30, 31, 32, 33], [33])])
def spec_ShopOk.B2 : List Nat := [0, 1, 3, 7, 15, 31, 63, 127, 255, 511, 1023, 2047, 4095, 8191, 16383, 32767, 65535, 131071, 262143, 524287, 1048575, 2097151, 4194303, 8388607, 4194303, 20971519, 67108863, 134217727, 268435455, 4194303, 541065215, 2147483647, 4294967295, 8589934591, 17179869183]
theorem spec_ShopOk.tab2 : rtab .any (opsOf Try.f26 2) = spec_ShopOk.T2 := by kernel_rfl
theorem spec_ShopOk.bits2 : waitsOk spec_ShopOk.T2.2 spec_ShopOk.B2 = true := by kernel_rfl
set_option maxHeartbeats 8000000 in
set_option maxRecDepth 100000 in
theorem spec_ShopOk.calls (k : Nat) (A0_0 : Option Addr) (c0_0 : Nat) (l0_0 : List (S100)) (a0_1 : Int) (A0_2 : Option Addr) (c0_2 : Nat) (l0_2 : List Int) (a0_3 : Int) (a0_4 : Int) (A0_5 : Option Addr) (c0_5 : Nat) (l0_5 : List (S61)) (r : Bool) (w : World) (hr0_0 : Kd.C k100 w A0_0 l0_0.length l0_0) (hc0_0 : l0_0.length ≤ c0_0) (hr0_2 : Kd.C (Kd.int .i64) w A0_2 l0_2.length l0_2) (hc0_2 : l0_2.length ≤ c0_2) (hr0_5 : Kd.C k61 w A0_5 l0_5.length l0_5) (hc0_5 : l0_5.length ≤ c0_5) (h : spec_ShopOk.f k l0_0 a0_1 l0_2 a0_3 a0_4 l0_5 = some r) :
    Calls Try.prog 26 #[.agg #[.slice A0_0 l0_0.length c0_0, .int .i64 a0_1, .slice A0_2 l0_2.length c0_2, .int .i64 a0_3, .int .i64 a0_4, .slice A0_5 l0_5.length c0_5]] w fun e w' => e = .returned (.bool r) ∧ Below w.heap.size w w' := by
 have hu37 := Try.underlying37
 have hu34 := Try.underlying34
 have HR0_0 := Aside0.mk hr0_0
 have HC0_0 := Aside0.mk hc0_0
 clear hr0_0 hc0_0
 have HR0_2 := Aside0.mk hr0_2
 have HC0_2 := Aside0.mk hc0_2
 clear hr0_2 hc0_2
 have HR0_5 := Aside0.mk hr0_5
 have HC0_5 := Aside0.mk hc0_5
 clear hr0_5 hc0_5
 have HB := Aside0.mk (Below.refl w.heap.size w)
 have H : ((spec_WorkOk.f k l0_0 a0_1 l0_2).bind fun t176 => (if t176 = true then ((spec_LogOk.f l0_5).bind fun t177 => (if t177 = true then ((spec_l01In.f a0_3 (-10) 40).bind fun t178 => (if t178 = true then ((spec_l01In.f a0_4 0 100000).bind fun t179 => (if t179 = true then (if (l0_5.length : Int) = 0 then (some true) else (if 0 ≤ (wrap64 ((l0_5.length : Int) - 1)) then (if (wrap64 ((l0_5.length : Int) - 1)) < (l0_5.length : Int) then (some (decide (((rd_T61 l0_5 (wrap64 ((l0_5.length : Int) - 1))).f2) ≤ a0_4))) else (none)) else (none))) else (some false))) else (some false))) else (some false))) else (some false))) = some r := h
 clear h
 obtain ⟨t176, A2, H⟩ := bsI H
 by_cases c3 : t176 = true
 ·subst c3
  rw [if_pos rfl] at H
  obtain ⟨t177, A4, H⟩ := bsI H
  by_cases c5 : t177 = true
  ·subst c5
   rw [if_pos rfl] at H
   obtain ⟨t178, A6, H⟩ := bsI H
   by_cases c7 : t178 = true
   ·subst c7
    rw [if_pos rfl] at H
    obtain ⟨t179, A8, H⟩ := bsI H
    by_cases c9 : t179 = true
    ·subst c9
     rw [if_pos rfl] at H
     by_cases c10 : (l0_5.length : Int) = 0
     ·rw [if_pos c10] at H
      have c10b0 := beqT c10
      have c10b1 := bneF c10
      clear c10
      obtain rfl := Option.some.inj H
      go_enter Try.func26, Try.ntmps26
      try go_wp2_with (first | ((with_reducible refine bZx 1 (h := ?_)); refine bxE #[.slice A0_0 l0_0.length c0_0, .int .i64 a0_1, .slice A0_2 l0_2.length c0_2, .int .i64 a0_3, .int .i64 a0_4, .slice A0_5 l0_5.length c0_5] 37 ?_; intro gb175 hg w11 hbox hb; have BK175 := Aside0.mk (hbox); have GE175 := szB hg; replace HB := bbB hb; clear hb hbox hg; obtain ⟨hcz12_0, hcz12_1, hcz12_2, hcz12_3, hcz12_4, hcz12_5, hfz12_0, hfz12_1, hfz12_2, hfz12_3, hfz12_4, hfz12_5⟩ := kZc6 BK175))
      replace BK175 := Aside0.mk (blk_drew BK175.out)
      replace HB := Aside0.mk (below_drew1 HB.out)
      refine start_ (n := 35) (S := fun w' => w'.cell? ⟨gb175, 0, none⟩ = some (.slice A0_0 l0_0.length c0_0) ∧ w'.cell? ⟨gb175, 1, none⟩ = some (.int .i64 a0_1) ∧ w'.cell? ⟨gb175, 2, none⟩ = some (.slice A0_2 l0_2.length c0_2) ∧ w'.cell? ⟨gb175, 3, none⟩ = some (.int .i64 a0_3) ∧ w'.cell? ⟨gb175, 4, none⟩ = some (.int .i64 a0_4) ∧ w'.cell? ⟨gb175, 5, none⟩ = some (.slice A0_5 l0_5.length c0_5)) (ds := []) (Array.replicate 35 false) (by kernel_rfl) rfl rfl ⟨kZc BK175 0, kZc BK175 1, kZc BK175 2, kZc BK175 3, kZc BK175 4, kZc BK175 5⟩ (fun hHeld => ?_); refine with_tabW spec_ShopOk.tab2 spec_ShopOk.bits2 (fun HT_ HW_ => ?_)
      generalize w11.drew = w13 at BK175 HB hHeld ⊢
      refine pZu 0 7 HT_ (h := ?_)
      refine tZk 1 8 HT_ HW_ hHeld (h := ?_)
      refine oZn 2 (some 9) HT_ (h := fun K hK => ?_)
      refine goes_ Try.func52 (by kernel_rfl) rfl #[.agg #[.slice A0_0 l0_0.length c0_0, .int .i64 a0_1, .slice A0_2 l0_2.length c0_2]] (by rfl) rfl rfl MP ?_
      with_reducible refine (spec_WorkOk.calls k _ _ l0_0 a0_1 _ _ l0_2 true _ ?side1 ?side2 ?side3 ?side4 A2.out).mono ?_
      (case side1 => exact cZr (Kd.C_below HR0_0.out HB.out))
      (case side2 => exact HC0_0.out)
      (case side3 => exact cZr (Kd.C_below HR0_2.out HB.out))
      (case side4 => exact HC0_2.out)
      rintro e w14 ⟨rfl, hb⟩
      refine ⟨_, rfl, ?_⟩
      replace BK175 := kbB BK175 hb
      replace HB := bbB hb
      (try clear hb)
      refine hK.out _ _ ⟨kZc BK175 0, kZc BK175 1, kZc BK175 2, kZc BK175 3, kZc BK175 4, kZc BK175 5⟩ (fun hHeld => ?_)
      clear hK K
      refine nZm (h := ?_)
      refine pZu 3 10 HT_ (h := ?_)
      refine pZu 4 11 HT_ (h := ?_)
      refine tZk 5 12 HT_ HW_ hHeld (h := ?_)
      refine oZn 6 (some 13) HT_ (h := fun K hK => ?_)
      refine goes_ Try.func51 (by kernel_rfl) rfl #[.slice A0_5 l0_5.length c0_5] (by rfl) rfl rfl MP ?_
      with_reducible refine (spec_LogOk.calls _ _ l0_5 true _ ?side1 ?side2 A4.out).mono ?_
      (case side1 => exact cZr (Kd.C_below HR0_5.out HB.out))
      (case side2 => exact HC0_5.out)
      rintro e w15 ⟨rfl, hb⟩
      refine ⟨_, rfl, ?_⟩
      replace BK175 := kbB BK175 hb
      replace HB := bbB hb
      (try clear hb)
      refine hK.out _ _ ⟨kZc BK175 0, kZc BK175 1, kZc BK175 2, kZc BK175 3, kZc BK175 4, kZc BK175 5⟩ (fun hHeld => ?_)
      clear hK K
      refine nZm (h := ?_)
      refine pZu 7 14 HT_ (h := ?_)
      refine pZu 8 15 HT_ (h := ?_)
      refine pZu 9 16 HT_ (h := ?_)
      refine tZk 10 17 HT_ HW_ hHeld (h := ?_)
      refine oZn 11 (some 18) HT_ (h := fun K hK => ?_)
      refine goes_ Try.func53 (by kernel_rfl) rfl #[.int .i64 a0_3, .int .i64 (-10), .int .i64 40] (by rfl) rfl rfl MP ?_
      with_reducible refine (spec_l01In.calls a0_3 (-10) 40 true _ A6.out).mono ?_
      rintro e w' ⟨rfl, ⟨nd, rfl⟩⟩
      refine ⟨_, rfl, ?_⟩
      refine hK.out _ _ ⟨kZc BK175 0, kZc BK175 1, kZc BK175 2, kZc BK175 3, kZc BK175 4, kZc BK175 5⟩ (fun hHeld => ?_)
      clear hK K
      refine nZm (h := ?_)
      refine pZu 12 19 HT_ (h := ?_)
      refine pZu 13 20 HT_ (h := ?_)
      refine pZu 14 21 HT_ (h := ?_)
      refine tZk 15 22 HT_ HW_ hHeld (h := ?_)
      refine oZn 16 (some 23) HT_ (h := fun K hK => ?_)
      refine goes_ Try.func53 (by kernel_rfl) rfl #[.int .i64 a0_4, .int .i64 0, .int .i64 100000] (by rfl) rfl rfl MP ?_
      with_reducible refine (spec_l01In.calls a0_4 0 100000 true _ A8.out).mono ?_
      rintro e w' ⟨rfl, ⟨nd, rfl⟩⟩
      refine ⟨_, rfl, ?_⟩
      refine hK.out _ _ ⟨kZc BK175 0, kZc BK175 1, kZc BK175 2, kZc BK175 3, kZc BK175 4, kZc BK175 5⟩ (fun hHeld => ?_)
      clear hK K
      refine nZm (h := ?_)
      refine pZu 17 24 HT_ (h := ?_)
      refine pZu 18 25 HT_ (h := ?_)
      refine pZu 19 26 HT_ (h := ?_)
      refine pZu 20 27 HT_ (h := ?_)
      refine pZu 21 28 HT_ (h := ?_)
      refine pZo 22 29 HT_ (h := ?_)
      refine pZo 23 30 HT_ (h := ?_)
      refine pZo 24 31 HT_ (h := ?_)
      refine pZo 25 32 HT_ (h := ?_)
      refine pZo 26 33 HT_ (h := ?_)
      refine pZo 27 34 HT_ (h := ?_)
      refine pZo 28 35 HT_ (h := ?_)
      refine pZo 29 36 HT_ (h := ?_)
      refine pZo 30 37 HT_ (h := ?_)
      refine pZo 31 38 HT_ (h := ?_)
      refine pZu 32 39 HT_ (h := ?_)
      refine pZu 33 40 HT_ (h := ?_)
      refine pZu 34 2 HT_ (h := ?_)
      refine done_ (done_of HT_.out (by kernel_rfl)) ?_
      try go_wp2
      go_ret
      exact ⟨EV, BB⟩
     ·rw [if_neg c10] at H
      have c10b0 := beqF c10
      have c10b1 := bneT c10
      have c10b2 : ¬ (l0_5 = []) := fun h_ => c10 (by rw [h_]; rfl)
      obtain ⟨ji16, hji16⟩ : ∃ j_ : Int, (wrap64 ((l0_5.length : Int) - 1)) = j_ := ⟨_, rfl⟩
      replace H : (if 0 ≤ (ji16) then (if (ji16) < (l0_5.length : Int) then (some (decide (((rd_T61 l0_5 (ji16)).f2) ≤ a0_4))) else (none)) else (none)) = some r := by first | (rw [hji16] at H; exact H) | (simp only [hji16] at H ⊢; exact H)
      (try rw [hji16] at A2)
      (try rw [hji16] at A4)
      (try rw [hji16] at A6)
      (try rw [hji16] at A8)
      have hji16w : (IntKind.i64.wrap ((l0_5.length : Int) - 1)) = ji16 := (i64_w _).trans hji16
      by_cases c17 : 0 ≤ (ji16)
      ·rw [if_pos c17] at H
       have c17b0 := decide_eq_true c17
       clear c17
       by_cases c18 : (ji16) < (l0_5.length : Int)
       ·rw [if_pos c18] at H
        have c18b0 := decide_eq_true c18
        clear c18
        obtain rfl := Option.some.inj H
        go_enter Try.func26, Try.ntmps26
        try go_wp2_with (first | ((with_reducible refine bZx 1 (h := ?_)); refine bxE #[.slice A0_0 l0_0.length c0_0, .int .i64 a0_1, .slice A0_2 l0_2.length c0_2, .int .i64 a0_3, .int .i64 a0_4, .slice A0_5 l0_5.length c0_5] 37 ?_; intro gb175 hg w19 hbox hb; have BK175 := Aside0.mk (hbox); have GE175 := szB hg; replace HB := bbB hb; clear hb hbox hg; obtain ⟨hcz20_0, hcz20_1, hcz20_2, hcz20_3, hcz20_4, hcz20_5, hfz20_0, hfz20_1, hfz20_2, hfz20_3, hfz20_4, hfz20_5⟩ := kZc6 BK175))
        replace BK175 := Aside0.mk (blk_drew BK175.out)
        replace HB := Aside0.mk (below_drew1 HB.out)
        have p180 : 0 ≤ ((ji16) : Int) := odt
        have q180 : (ji16) < (l0_5.length : Int) := odt
        obtain ⟨ad180, e180, hx180_0, hx180_1, hx180_2, hx180_3⟩ := at_T61 HR0_5.out (ji16) p180 q180
        have hw180_3 := hx180_3
        have hw180_2 := hx180_2
        have hw180_1 := hx180_1
        have hw180_0 := hx180_0
        cases e180
        replace hx180_0 := pw_cell_below HB.out hx180_0
        replace hx180_1 := pw_cell_below HB.out hx180_1
        replace hx180_2 := pw_cell_below HB.out hx180_2
        replace hx180_3 := pw_cell_below HB.out hx180_3
        replace p180 := eq_true p180
        replace q180 := eq_true q180
        refine start_ (n := 35) (S := fun w' => w'.cell? ⟨gb175, 0, none⟩ = some (.slice A0_0 l0_0.length c0_0) ∧ w'.cell? ⟨gb175, 1, none⟩ = some (.int .i64 a0_1) ∧ w'.cell? ⟨gb175, 2, none⟩ = some (.slice A0_2 l0_2.length c0_2) ∧ w'.cell? ⟨gb175, 3, none⟩ = some (.int .i64 a0_3) ∧ w'.cell? ⟨gb175, 4, none⟩ = some (.int .i64 a0_4) ∧ w'.cell? ⟨gb175, 5, none⟩ = some (.slice (some ad180) l0_5.length c0_5) ∧ w'.cell? (ad180.add (((ji16)).toNat * 4)) = some (.int .i64 ((rd_T61 l0_5 (ji16)).f0.f0)) ∧ w'.cell? ⟨(ad180.add (((ji16)).toNat * 4)).block, (ad180.add (((ji16)).toNat * 4)).off + 1, none⟩ = some (.int .i64 ((rd_T61 l0_5 (ji16)).f0.f1)) ∧ w'.cell? ⟨(ad180.add (((ji16)).toNat * 4)).block, (ad180.add (((ji16)).toNat * 4)).off + 2, none⟩ = some (.int .i64 ((rd_T61 l0_5 (ji16)).f1)) ∧ w'.cell? ⟨(ad180.add (((ji16)).toNat * 4)).block, (ad180.add (((ji16)).toNat * 4)).off + 3, none⟩ = some (.int .i64 ((rd_T61 l0_5 (ji16)).f2))) (ds := []) (Array.replicate 35 false) (by kernel_rfl) rfl rfl ⟨kZc BK175 0, kZc BK175 1, kZc BK175 2, kZc BK175 3, kZc BK175 4, kZc BK175 5, (pw_cell_below HB.out hw180_0), (pw_cell_below HB.out hw180_1), (pw_cell_below HB.out hw180_2), (pw_cell_below HB.out hw180_3)⟩ (fun hHeld => ?_); refine with_tabW spec_ShopOk.tab2 spec_ShopOk.bits2 (fun HT_ HW_ => ?_)
        generalize w19.drew = w21 at BK175 HB hx180_0 hx180_1 hx180_2 hx180_3 hHeld ⊢
        refine pZu 0 7 HT_ (h := ?_)
        refine tZk 1 8 HT_ HW_ hHeld (h := ?_)
        refine oZn 2 (some 9) HT_ (h := fun K hK => ?_)
        refine goes_ Try.func52 (by kernel_rfl) rfl #[.agg #[.slice A0_0 l0_0.length c0_0, .int .i64 a0_1, .slice A0_2 l0_2.length c0_2]] (by rfl) rfl rfl MP ?_
        with_reducible refine (spec_WorkOk.calls k _ _ l0_0 a0_1 _ _ l0_2 true _ ?side1 ?side2 ?side3 ?side4 A2.out).mono ?_
        (case side1 => exact cZr (Kd.C_below HR0_0.out HB.out))
        (case side2 => exact HC0_0.out)
        (case side3 => exact cZr (Kd.C_below HR0_2.out HB.out))
        (case side4 => exact HC0_2.out)
        rintro e w22 ⟨rfl, hb⟩
        refine ⟨_, rfl, ?_⟩
        replace BK175 := kbB BK175 hb
        replace HB := bbB hb
        (try clear hb)
        refine hK.out _ _ ⟨kZc BK175 0, kZc BK175 1, kZc BK175 2, kZc BK175 3, kZc BK175 4, kZc BK175 5, (pw_cell_below HB.out hw180_0), (pw_cell_below HB.out hw180_1), (pw_cell_below HB.out hw180_2), (pw_cell_below HB.out hw180_3)⟩ (fun hHeld => ?_)
        clear hK K
        refine nZm (h := ?_)
        refine pZu 3 10 HT_ (h := ?_)
        refine pZu 4 11 HT_ (h := ?_)
        refine tZk 5 12 HT_ HW_ hHeld (h := ?_)
        refine oZn 6 (some 13) HT_ (h := fun K hK => ?_)
        refine goes_ Try.func51 (by kernel_rfl) rfl #[.slice (some ad180) l0_5.length c0_5] (by rfl) rfl rfl MP ?_
        with_reducible refine (spec_LogOk.calls _ _ l0_5 true _ ?side1 ?side2 A4.out).mono ?_
        (case side1 => exact cZr (Kd.C_below HR0_5.out HB.out))
        (case side2 => exact HC0_5.out)
        rintro e w23 ⟨rfl, hb⟩
        refine ⟨_, rfl, ?_⟩
        replace BK175 := kbB BK175 hb
        replace HB := bbB hb
        (try clear hb)
        refine hK.out _ _ ⟨kZc BK175 0, kZc BK175 1, kZc BK175 2, kZc BK175 3, kZc BK175 4, kZc BK175 5, (pw_cell_below HB.out hw180_0), (pw_cell_below HB.out hw180_1), (pw_cell_below HB.out hw180_2), (pw_cell_below HB.out hw180_3)⟩ (fun hHeld => ?_)
        clear hK K
        refine nZm (h := ?_)
        refine pZu 7 14 HT_ (h := ?_)
        refine pZu 8 15 HT_ (h := ?_)
        refine pZu 9 16 HT_ (h := ?_)
        refine tZk 10 17 HT_ HW_ hHeld (h := ?_)
        refine oZn 11 (some 18) HT_ (h := fun K hK => ?_)
        refine goes_ Try.func53 (by kernel_rfl) rfl #[.int .i64 a0_3, .int .i64 (-10), .int .i64 40] (by rfl) rfl rfl MP ?_
        with_reducible refine (spec_l01In.calls a0_3 (-10) 40 true _ A6.out).mono ?_
        rintro e w' ⟨rfl, ⟨nd, rfl⟩⟩
        refine ⟨_, rfl, ?_⟩
        refine hK.out _ _ ⟨kZc BK175 0, kZc BK175 1, kZc BK175 2, kZc BK175 3, kZc BK175 4, kZc BK175 5, (pw_cell_below HB.out hw180_0), (pw_cell_below HB.out hw180_1), (pw_cell_below HB.out hw180_2), (pw_cell_below HB.out hw180_3)⟩ (fun hHeld => ?_)
        clear hK K
        refine nZm (h := ?_)
        refine pZu 12 19 HT_ (h := ?_)
        refine pZu 13 20 HT_ (h := ?_)
        refine pZu 14 21 HT_ (h := ?_)
        refine tZk 15 22 HT_ HW_ hHeld (h := ?_)
        refine oZn 16 (some 23) HT_ (h := fun K hK => ?_)
        refine goes_ Try.func53 (by kernel_rfl) rfl #[.int .i64 a0_4, .int .i64 0, .int .i64 100000] (by rfl) rfl rfl MP ?_
        with_reducible refine (spec_l01In.calls a0_4 0 100000 true _ A8.out).mono ?_
        rintro e w' ⟨rfl, ⟨nd, rfl⟩⟩
        refine ⟨_, rfl, ?_⟩
        refine hK.out _ _ ⟨kZc BK175 0, kZc BK175 1, kZc BK175 2, kZc BK175 3, kZc BK175 4, kZc BK175 5, (pw_cell_below HB.out hw180_0), (pw_cell_below HB.out hw180_1), (pw_cell_below HB.out hw180_2), (pw_cell_below HB.out hw180_3)⟩ (fun hHeld => ?_)
        clear hK K
        refine nZm (h := ?_)
        refine pZu 17 24 HT_ (h := ?_)
        refine pZu 18 25 HT_ (h := ?_)
        refine pZu 19 26 HT_ (h := ?_)
        refine pZu 20 27 HT_ (h := ?_)
        refine pZu 21 28 HT_ (h := ?_)
        refine pZu 22 29 HT_ (h := ?_)
        refine pZu 24 31 HT_ (h := ?_)
        refine pZu 25 32 HT_ (h := ?_)
        refine pZu 29 36 HT_ (h := ?_)
        refine tZk 23 30 HT_ HW_ hHeld (h := ?_)
        refine pZu 26 33 HT_ (h := ?_)
        refine pZu 27 34 HT_ (h := ?_)
        refine tZk 28 35 HT_ HW_ hHeld (h := ?_)
        refine tZk 30 37 HT_ HW_ hHeld (h := ?_)
        refine pZu 31 38 HT_ (h := ?_)
        refine pZu 32 39 HT_ (h := ?_)
        refine pZu 33 40 HT_ (h := ?_)
        refine pZu 34 2 HT_ (h := ?_)
        refine done_ (done_of HT_.out (by kernel_rfl)) ?_
        try go_wp2
        go_ret
        exact ⟨by first | rfl | (simp [errW_none, errW_some] <;> rfl) | (simp only [← hji16]; first | rfl | (simp [errW_none, errW_some] <;> rfl)) | (simp [*, errW_none, errW_some] <;> rfl), BB⟩
       ·rw [if_neg c18] at H
        exact absurd H (by simp)
      ·rw [if_neg c17] at H
       exact absurd H (by simp)
    ·replace c9 := Bool.eq_false_iff.mpr c9
     subst c9
     rw [if_neg nft] at H
     obtain rfl := Option.some.inj H
     go_enter Try.func26, Try.ntmps26
     try go_wp2_with (first | ((with_reducible refine bZx 1 (h := ?_)); refine bxE #[.slice A0_0 l0_0.length c0_0, .int .i64 a0_1, .slice A0_2 l0_2.length c0_2, .int .i64 a0_3, .int .i64 a0_4, .slice A0_5 l0_5.length c0_5] 37 ?_; intro gb175 hg w24 hbox hb; have BK175 := Aside0.mk (hbox); have GE175 := szB hg; replace HB := bbB hb; clear hb hbox hg; obtain ⟨hcz25_0, hcz25_1, hcz25_2, hcz25_3, hcz25_4, hcz25_5, hfz25_0, hfz25_1, hfz25_2, hfz25_3, hfz25_4, hfz25_5⟩ := kZc6 BK175))
     replace BK175 := Aside0.mk (blk_drew BK175.out)
     replace HB := Aside0.mk (below_drew1 HB.out)
     refine start_ (n := 35) (S := fun w' => w'.cell? ⟨gb175, 0, none⟩ = some (.slice A0_0 l0_0.length c0_0) ∧ w'.cell? ⟨gb175, 1, none⟩ = some (.int .i64 a0_1) ∧ w'.cell? ⟨gb175, 2, none⟩ = some (.slice A0_2 l0_2.length c0_2) ∧ w'.cell? ⟨gb175, 3, none⟩ = some (.int .i64 a0_3) ∧ w'.cell? ⟨gb175, 4, none⟩ = some (.int .i64 a0_4) ∧ w'.cell? ⟨gb175, 5, none⟩ = some (.slice A0_5 l0_5.length c0_5)) (ds := []) (Array.replicate 35 false) (by kernel_rfl) rfl rfl ⟨kZc BK175 0, kZc BK175 1, kZc BK175 2, kZc BK175 3, kZc BK175 4, kZc BK175 5⟩ (fun hHeld => ?_); refine with_tabW spec_ShopOk.tab2 spec_ShopOk.bits2 (fun HT_ HW_ => ?_)
     generalize w24.drew = w26 at BK175 HB hHeld ⊢
     refine pZu 0 7 HT_ (h := ?_)
     refine tZk 1 8 HT_ HW_ hHeld (h := ?_)
     refine oZn 2 (some 9) HT_ (h := fun K hK => ?_)
     refine goes_ Try.func52 (by kernel_rfl) rfl #[.agg #[.slice A0_0 l0_0.length c0_0, .int .i64 a0_1, .slice A0_2 l0_2.length c0_2]] (by rfl) rfl rfl MP ?_
     with_reducible refine (spec_WorkOk.calls k _ _ l0_0 a0_1 _ _ l0_2 true _ ?side1 ?side2 ?side3 ?side4 A2.out).mono ?_
     (case side1 => exact cZr (Kd.C_below HR0_0.out HB.out))
     (case side2 => exact HC0_0.out)
     (case side3 => exact cZr (Kd.C_below HR0_2.out HB.out))
     (case side4 => exact HC0_2.out)
     rintro e w27 ⟨rfl, hb⟩
     refine ⟨_, rfl, ?_⟩
     replace BK175 := kbB BK175 hb
     replace HB := bbB hb
     (try clear hb)
     refine hK.out _ _ ⟨kZc BK175 0, kZc BK175 1, kZc BK175 2, kZc BK175 3, kZc BK175 4, kZc BK175 5⟩ (fun hHeld => ?_)
     clear hK K
     refine nZm (h := ?_)
     refine pZu 3 10 HT_ (h := ?_)
     refine pZu 4 11 HT_ (h := ?_)
     refine tZk 5 12 HT_ HW_ hHeld (h := ?_)
     refine oZn 6 (some 13) HT_ (h := fun K hK => ?_)
     refine goes_ Try.func51 (by kernel_rfl) rfl #[.slice A0_5 l0_5.length c0_5] (by rfl) rfl rfl MP ?_
     with_reducible refine (spec_LogOk.calls _ _ l0_5 true _ ?side1 ?side2 A4.out).mono ?_
     (case side1 => exact cZr (Kd.C_below HR0_5.out HB.out))
     (case side2 => exact HC0_5.out)
     rintro e w28 ⟨rfl, hb⟩
     refine ⟨_, rfl, ?_⟩
     replace BK175 := kbB BK175 hb
     replace HB := bbB hb
     (try clear hb)
     refine hK.out _ _ ⟨kZc BK175 0, kZc BK175 1, kZc BK175 2, kZc BK175 3, kZc BK175 4, kZc BK175 5⟩ (fun hHeld => ?_)
     clear hK K
     refine nZm (h := ?_)
     refine pZu 7 14 HT_ (h := ?_)
     refine pZu 8 15 HT_ (h := ?_)
     refine pZu 9 16 HT_ (h := ?_)
     refine tZk 10 17 HT_ HW_ hHeld (h := ?_)
     refine oZn 11 (some 18) HT_ (h := fun K hK => ?_)
     refine goes_ Try.func53 (by kernel_rfl) rfl #[.int .i64 a0_3, .int .i64 (-10), .int .i64 40] (by rfl) rfl rfl MP ?_
     with_reducible refine (spec_l01In.calls a0_3 (-10) 40 true _ A6.out).mono ?_
     rintro e w' ⟨rfl, ⟨nd, rfl⟩⟩
     refine ⟨_, rfl, ?_⟩
     refine hK.out _ _ ⟨kZc BK175 0, kZc BK175 1, kZc BK175 2, kZc BK175 3, kZc BK175 4, kZc BK175 5⟩ (fun hHeld => ?_)
     clear hK K
     refine nZm (h := ?_)
     refine pZu 12 19 HT_ (h := ?_)
     refine pZu 13 20 HT_ (h := ?_)
     refine pZu 14 21 HT_ (h := ?_)
     refine tZk 15 22 HT_ HW_ hHeld (h := ?_)
     refine oZn 16 (some 23) HT_ (h := fun K hK => ?_)
     refine goes_ Try.func53 (by kernel_rfl) rfl #[.int .i64 a0_4, .int .i64 0, .int .i64 100000] (by rfl) rfl rfl MP ?_
     with_reducible refine (spec_l01In.calls a0_4 0 100000 false _ A8.out).mono ?_
     rintro e w' ⟨rfl, ⟨nd, rfl⟩⟩
     refine ⟨_, rfl, ?_⟩
     refine hK.out _ _ ⟨kZc BK175 0, kZc BK175 1, kZc BK175 2, kZc BK175 3, kZc BK175 4, kZc BK175 5⟩ (fun hHeld => ?_)
     clear hK K
     refine nZm (h := ?_)
     refine pZu 17 24 HT_ (h := ?_)
     refine pZu 18 25 HT_ (h := ?_)
     refine pZo 19 26 HT_ (h := ?_)
     refine pZo 20 27 HT_ (h := ?_)
     refine pZo 21 28 HT_ (h := ?_)
     refine pZo 22 29 HT_ (h := ?_)
     refine pZo 23 30 HT_ (h := ?_)
     refine pZo 24 31 HT_ (h := ?_)
     refine pZo 25 32 HT_ (h := ?_)
     refine pZo 26 33 HT_ (h := ?_)
     refine pZo 27 34 HT_ (h := ?_)
     refine pZo 28 35 HT_ (h := ?_)
     refine pZo 29 36 HT_ (h := ?_)
     refine pZo 30 37 HT_ (h := ?_)
     refine pZo 31 38 HT_ (h := ?_)
     refine pZo 32 39 HT_ (h := ?_)
     refine pZu 33 40 HT_ (h := ?_)
     refine pZu 34 2 HT_ (h := ?_)
     refine done_ (done_of HT_.out (by kernel_rfl)) ?_
     try go_wp2
     go_ret
     exact ⟨EV, BB⟩
   ·replace c7 := Bool.eq_false_iff.mpr c7
    subst c7
    rw [if_neg nft] at H
    obtain rfl := Option.some.inj H
    go_enter Try.func26, Try.ntmps26
    try go_wp2_with (first | ((with_reducible refine bZx 1 (h := ?_)); refine bxE #[.slice A0_0 l0_0.length c0_0, .int .i64 a0_1, .slice A0_2 l0_2.length c0_2, .int .i64 a0_3, .int .i64 a0_4, .slice A0_5 l0_5.length c0_5] 37 ?_; intro gb175 hg w29 hbox hb; have BK175 := Aside0.mk (hbox); have GE175 := szB hg; replace HB := bbB hb; clear hb hbox hg; obtain ⟨hcz30_0, hcz30_1, hcz30_2, hcz30_3, hcz30_4, hcz30_5, hfz30_0, hfz30_1, hfz30_2, hfz30_3, hfz30_4, hfz30_5⟩ := kZc6 BK175))
    replace BK175 := Aside0.mk (blk_drew BK175.out)
    replace HB := Aside0.mk (below_drew1 HB.out)
    refine start_ (n := 35) (S := fun w' => w'.cell? ⟨gb175, 0, none⟩ = some (.slice A0_0 l0_0.length c0_0) ∧ w'.cell? ⟨gb175, 1, none⟩ = some (.int .i64 a0_1) ∧ w'.cell? ⟨gb175, 2, none⟩ = some (.slice A0_2 l0_2.length c0_2) ∧ w'.cell? ⟨gb175, 3, none⟩ = some (.int .i64 a0_3) ∧ w'.cell? ⟨gb175, 4, none⟩ = some (.int .i64 a0_4) ∧ w'.cell? ⟨gb175, 5, none⟩ = some (.slice A0_5 l0_5.length c0_5)) (ds := []) (Array.replicate 35 false) (by kernel_rfl) rfl rfl ⟨kZc BK175 0, kZc BK175 1, kZc BK175 2, kZc BK175 3, kZc BK175 4, kZc BK175 5⟩ (fun hHeld => ?_); refine with_tabW spec_ShopOk.tab2 spec_ShopOk.bits2 (fun HT_ HW_ => ?_)
    generalize w29.drew = w31 at BK175 HB hHeld ⊢
    refine pZu 0 7 HT_ (h := ?_)
    refine tZk 1 8 HT_ HW_ hHeld (h := ?_)
    refine oZn 2 (some 9) HT_ (h := fun K hK => ?_)
    refine goes_ Try.func52 (by kernel_rfl) rfl #[.agg #[.slice A0_0 l0_0.length c0_0, .int .i64 a0_1, .slice A0_2 l0_2.length c0_2]] (by rfl) rfl rfl MP ?_
    with_reducible refine (spec_WorkOk.calls k _ _ l0_0 a0_1 _ _ l0_2 true _ ?side1 ?side2 ?side3 ?side4 A2.out).mono ?_
    (case side1 => exact cZr (Kd.C_below HR0_0.out HB.out))
    (case side2 => exact HC0_0.out)
    (case side3 => exact cZr (Kd.C_below HR0_2.out HB.out))
    (case side4 => exact HC0_2.out)
    rintro e w32 ⟨rfl, hb⟩
    refine ⟨_, rfl, ?_⟩
    replace BK175 := kbB BK175 hb
    replace HB := bbB hb
    (try clear hb)
    refine hK.out _ _ ⟨kZc BK175 0, kZc BK175 1, kZc BK175 2, kZc BK175 3, kZc BK175 4, kZc BK175 5⟩ (fun hHeld => ?_)
    clear hK K
    refine nZm (h := ?_)
    refine pZu 3 10 HT_ (h := ?_)
    refine pZu 4 11 HT_ (h := ?_)
    refine tZk 5 12 HT_ HW_ hHeld (h := ?_)
    refine oZn 6 (some 13) HT_ (h := fun K hK => ?_)
    refine goes_ Try.func51 (by kernel_rfl) rfl #[.slice A0_5 l0_5.length c0_5] (by rfl) rfl rfl MP ?_
    with_reducible refine (spec_LogOk.calls _ _ l0_5 true _ ?side1 ?side2 A4.out).mono ?_
    (case side1 => exact cZr (Kd.C_below HR0_5.out HB.out))
    (case side2 => exact HC0_5.out)
    rintro e w33 ⟨rfl, hb⟩
    refine ⟨_, rfl, ?_⟩
    replace BK175 := kbB BK175 hb
    replace HB := bbB hb
    (try clear hb)
    refine hK.out _ _ ⟨kZc BK175 0, kZc BK175 1, kZc BK175 2, kZc BK175 3, kZc BK175 4, kZc BK175 5⟩ (fun hHeld => ?_)
    clear hK K
    refine nZm (h := ?_)
    refine pZu 7 14 HT_ (h := ?_)
    refine pZu 8 15 HT_ (h := ?_)
    refine pZu 9 16 HT_ (h := ?_)
    refine tZk 10 17 HT_ HW_ hHeld (h := ?_)
    refine oZn 11 (some 18) HT_ (h := fun K hK => ?_)
    refine goes_ Try.func53 (by kernel_rfl) rfl #[.int .i64 a0_3, .int .i64 (-10), .int .i64 40] (by rfl) rfl rfl MP ?_
    with_reducible refine (spec_l01In.calls a0_3 (-10) 40 false _ A6.out).mono ?_
    rintro e w' ⟨rfl, ⟨nd, rfl⟩⟩
    refine ⟨_, rfl, ?_⟩
    refine hK.out _ _ ⟨kZc BK175 0, kZc BK175 1, kZc BK175 2, kZc BK175 3, kZc BK175 4, kZc BK175 5⟩ (fun hHeld => ?_)
    clear hK K
    refine nZm (h := ?_)
    refine pZu 12 19 HT_ (h := ?_)
    refine pZu 13 20 HT_ (h := ?_)
    refine pZo 14 21 HT_ (h := ?_)
    refine pZo 15 22 HT_ (h := ?_)
    refine pZo 16 23 HT_ (h := ?_)
    refine pZu 17 24 HT_ (h := ?_)
    refine pZu 18 25 HT_ (h := ?_)
    refine pZo 19 26 HT_ (h := ?_)
    refine pZo 20 27 HT_ (h := ?_)
    refine pZo 21 28 HT_ (h := ?_)
    refine pZo 22 29 HT_ (h := ?_)
    refine pZo 23 30 HT_ (h := ?_)
    refine pZo 24 31 HT_ (h := ?_)
    refine pZo 25 32 HT_ (h := ?_)
    refine pZo 26 33 HT_ (h := ?_)
    refine pZo 27 34 HT_ (h := ?_)
    refine pZo 28 35 HT_ (h := ?_)
    refine pZo 29 36 HT_ (h := ?_)
    refine pZo 30 37 HT_ (h := ?_)
    refine pZo 31 38 HT_ (h := ?_)
    refine pZo 32 39 HT_ (h := ?_)
    refine pZu 33 40 HT_ (h := ?_)
    refine pZu 34 2 HT_ (h := ?_)
    refine done_ (done_of HT_.out (by kernel_rfl)) ?_
    try go_wp2
    go_ret
    exact ⟨EV, BB⟩
  ·replace c5 := Bool.eq_false_iff.mpr c5
   subst c5
   rw [if_neg nft] at H
   obtain rfl := Option.some.inj H
   go_enter Try.func26, Try.ntmps26
   try go_wp2_with (first | ((with_reducible refine bZx 1 (h := ?_)); refine bxE #[.slice A0_0 l0_0.length c0_0, .int .i64 a0_1, .slice A0_2 l0_2.length c0_2, .int .i64 a0_3, .int .i64 a0_4, .slice A0_5 l0_5.length c0_5] 37 ?_; intro gb175 hg w34 hbox hb; have BK175 := Aside0.mk (hbox); have GE175 := szB hg; replace HB := bbB hb; clear hb hbox hg; obtain ⟨hcz35_0, hcz35_1, hcz35_2, hcz35_3, hcz35_4, hcz35_5, hfz35_0, hfz35_1, hfz35_2, hfz35_3, hfz35_4, hfz35_5⟩ := kZc6 BK175))
   replace BK175 := Aside0.mk (blk_drew BK175.out)
   replace HB := Aside0.mk (below_drew1 HB.out)
   refine start_ (n := 35) (S := fun w' => w'.cell? ⟨gb175, 0, none⟩ = some (.slice A0_0 l0_0.length c0_0) ∧ w'.cell? ⟨gb175, 1, none⟩ = some (.int .i64 a0_1) ∧ w'.cell? ⟨gb175, 2, none⟩ = some (.slice A0_2 l0_2.length c0_2) ∧ w'.cell? ⟨gb175, 3, none⟩ = some (.int .i64 a0_3) ∧ w'.cell? ⟨gb175, 4, none⟩ = some (.int .i64 a0_4) ∧ w'.cell? ⟨gb175, 5, none⟩ = some (.slice A0_5 l0_5.length c0_5)) (ds := []) (Array.replicate 35 false) (by kernel_rfl) rfl rfl ⟨kZc BK175 0, kZc BK175 1, kZc BK175 2, kZc BK175 3, kZc BK175 4, kZc BK175 5⟩ (fun hHeld => ?_); refine with_tabW spec_ShopOk.tab2 spec_ShopOk.bits2 (fun HT_ HW_ => ?_)
   generalize w34.drew = w36 at BK175 HB hHeld ⊢
   refine pZu 0 7 HT_ (h := ?_)
   refine tZk 1 8 HT_ HW_ hHeld (h := ?_)
   refine oZn 2 (some 9) HT_ (h := fun K hK => ?_)
   refine goes_ Try.func52 (by kernel_rfl) rfl #[.agg #[.slice A0_0 l0_0.length c0_0, .int .i64 a0_1, .slice A0_2 l0_2.length c0_2]] (by rfl) rfl rfl MP ?_
   with_reducible refine (spec_WorkOk.calls k _ _ l0_0 a0_1 _ _ l0_2 true _ ?side1 ?side2 ?side3 ?side4 A2.out).mono ?_
   (case side1 => exact cZr (Kd.C_below HR0_0.out HB.out))
   (case side2 => exact HC0_0.out)
   (case side3 => exact cZr (Kd.C_below HR0_2.out HB.out))
   (case side4 => exact HC0_2.out)
   rintro e w37 ⟨rfl, hb⟩
   refine ⟨_, rfl, ?_⟩
   replace BK175 := kbB BK175 hb
   replace HB := bbB hb
   (try clear hb)
   refine hK.out _ _ ⟨kZc BK175 0, kZc BK175 1, kZc BK175 2, kZc BK175 3, kZc BK175 4, kZc BK175 5⟩ (fun hHeld => ?_)
   clear hK K
   refine nZm (h := ?_)
   refine pZu 3 10 HT_ (h := ?_)
   refine pZu 4 11 HT_ (h := ?_)
   refine tZk 5 12 HT_ HW_ hHeld (h := ?_)
   refine oZn 6 (some 13) HT_ (h := fun K hK => ?_)
   refine goes_ Try.func51 (by kernel_rfl) rfl #[.slice A0_5 l0_5.length c0_5] (by rfl) rfl rfl MP ?_
   with_reducible refine (spec_LogOk.calls _ _ l0_5 false _ ?side1 ?side2 A4.out).mono ?_
   (case side1 => exact cZr (Kd.C_below HR0_5.out HB.out))
   (case side2 => exact HC0_5.out)
   rintro e w38 ⟨rfl, hb⟩
   refine ⟨_, rfl, ?_⟩
   replace BK175 := kbB BK175 hb
   replace HB := bbB hb
   (try clear hb)
   refine hK.out _ _ ⟨kZc BK175 0, kZc BK175 1, kZc BK175 2, kZc BK175 3, kZc BK175 4, kZc BK175 5⟩ (fun hHeld => ?_)
   clear hK K
   refine nZm (h := ?_)
   refine pZu 7 14 HT_ (h := ?_)
   refine pZu 8 15 HT_ (h := ?_)
   refine pZo 9 16 HT_ (h := ?_)
   refine pZo 10 17 HT_ (h := ?_)
   refine pZo 11 18 HT_ (h := ?_)
   refine pZu 12 19 HT_ (h := ?_)
   refine pZu 13 20 HT_ (h := ?_)
   refine pZo 14 21 HT_ (h := ?_)
   refine pZo 15 22 HT_ (h := ?_)
   refine pZo 16 23 HT_ (h := ?_)
   refine pZu 17 24 HT_ (h := ?_)
   refine pZu 18 25 HT_ (h := ?_)
   refine pZo 19 26 HT_ (h := ?_)
   refine pZo 20 27 HT_ (h := ?_)
   refine pZo 21 28 HT_ (h := ?_)
   refine pZo 22 29 HT_ (h := ?_)
   refine pZo 23 30 HT_ (h := ?_)
   refine pZo 24 31 HT_ (h := ?_)
   refine pZo 25 32 HT_ (h := ?_)
   refine pZo 26 33 HT_ (h := ?_)
   refine pZo 27 34 HT_ (h := ?_)
   refine pZo 28 35 HT_ (h := ?_)
   refine pZo 29 36 HT_ (h := ?_)
   refine pZo 30 37 HT_ (h := ?_)
   refine pZo 31 38 HT_ (h := ?_)
   refine pZo 32 39 HT_ (h := ?_)
   refine pZu 33 40 HT_ (h := ?_)
   refine pZu 34 2 HT_ (h := ?_)
   refine done_ (done_of HT_.out (by kernel_rfl)) ?_
   try go_wp2
   go_ret
   exact ⟨EV, BB⟩
 ·replace c3 := Bool.eq_false_iff.mpr c3
  subst c3
  rw [if_neg nft] at H
  obtain rfl := Option.some.inj H
  go_enter Try.func26, Try.ntmps26
  try go_wp2_with (first | ((with_reducible refine bZx 1 (h := ?_)); refine bxE #[.slice A0_0 l0_0.length c0_0, .int .i64 a0_1, .slice A0_2 l0_2.length c0_2, .int .i64 a0_3, .int .i64 a0_4, .slice A0_5 l0_5.length c0_5] 37 ?_; intro gb175 hg w39 hbox hb; have BK175 := Aside0.mk (hbox); have GE175 := szB hg; replace HB := bbB hb; clear hb hbox hg; obtain ⟨hcz40_0, hcz40_1, hcz40_2, hcz40_3, hcz40_4, hcz40_5, hfz40_0, hfz40_1, hfz40_2, hfz40_3, hfz40_4, hfz40_5⟩ := kZc6 BK175))
  replace BK175 := Aside0.mk (blk_drew BK175.out)
  replace HB := Aside0.mk (below_drew1 HB.out)
  refine start_ (n := 35) (S := fun w' => w'.cell? ⟨gb175, 0, none⟩ = some (.slice A0_0 l0_0.length c0_0) ∧ w'.cell? ⟨gb175, 1, none⟩ = some (.int .i64 a0_1) ∧ w'.cell? ⟨gb175, 2, none⟩ = some (.slice A0_2 l0_2.length c0_2) ∧ w'.cell? ⟨gb175, 3, none⟩ = some (.int .i64 a0_3) ∧ w'.cell? ⟨gb175, 4, none⟩ = some (.int .i64 a0_4) ∧ w'.cell? ⟨gb175, 5, none⟩ = some (.slice A0_5 l0_5.length c0_5)) (ds := []) (Array.replicate 35 false) (by kernel_rfl) rfl rfl ⟨kZc BK175 0, kZc BK175 1, kZc BK175 2, kZc BK175 3, kZc BK175 4, kZc BK175 5⟩ (fun hHeld => ?_); refine with_tabW spec_ShopOk.tab2 spec_ShopOk.bits2 (fun HT_ HW_ => ?_)
  generalize w39.drew = w41 at BK175 HB hHeld ⊢
  refine pZu 0 7 HT_ (h := ?_)
  refine tZk 1 8 HT_ HW_ hHeld (h := ?_)
  refine oZn 2 (some 9) HT_ (h := fun K hK => ?_)
  refine goes_ Try.func52 (by kernel_rfl) rfl #[.agg #[.slice A0_0 l0_0.length c0_0, .int .i64 a0_1, .slice A0_2 l0_2.length c0_2]] (by rfl) rfl rfl MP ?_
  with_reducible refine (spec_WorkOk.calls k _ _ l0_0 a0_1 _ _ l0_2 false _ ?side1 ?side2 ?side3 ?side4 A2.out).mono ?_
  (case side1 => exact cZr (Kd.C_below HR0_0.out HB.out))
  (case side2 => exact HC0_0.out)
  (case side3 => exact cZr (Kd.C_below HR0_2.out HB.out))
  (case side4 => exact HC0_2.out)
  rintro e w42 ⟨rfl, hb⟩
  refine ⟨_, rfl, ?_⟩
  replace BK175 := kbB BK175 hb
  replace HB := bbB hb
  (try clear hb)
  refine hK.out _ _ ⟨kZc BK175 0, kZc BK175 1, kZc BK175 2, kZc BK175 3, kZc BK175 4, kZc BK175 5⟩ (fun hHeld => ?_)
  clear hK K
  refine nZm (h := ?_)
  refine pZu 3 10 HT_ (h := ?_)
  refine pZo 4 11 HT_ (h := ?_)
  refine pZo 5 12 HT_ (h := ?_)
  refine pZo 6 13 HT_ (h := ?_)
  refine pZu 7 14 HT_ (h := ?_)
  refine pZu 8 15 HT_ (h := ?_)
  refine pZo 9 16 HT_ (h := ?_)
  refine pZo 10 17 HT_ (h := ?_)
  refine pZo 11 18 HT_ (h := ?_)
  refine pZu 12 19 HT_ (h := ?_)
  refine pZu 13 20 HT_ (h := ?_)
  refine pZo 14 21 HT_ (h := ?_)
  refine pZo 15 22 HT_ (h := ?_)
  refine pZo 16 23 HT_ (h := ?_)
  refine pZu 17 24 HT_ (h := ?_)
  refine pZu 18 25 HT_ (h := ?_)
  refine pZo 19 26 HT_ (h := ?_)
  refine pZo 20 27 HT_ (h := ?_)
  refine pZo 21 28 HT_ (h := ?_)
  refine pZo 22 29 HT_ (h := ?_)
  refine pZo 23 30 HT_ (h := ?_)
  refine pZo 24 31 HT_ (h := ?_)
  refine pZo 25 32 HT_ (h := ?_)
  refine pZo 26 33 HT_ (h := ?_)
  refine pZo 27 34 HT_ (h := ?_)
  refine pZo 28 35 HT_ (h := ?_)
  refine pZo 29 36 HT_ (h := ?_)
  refine pZo 30 37 HT_ (h := ?_)
  refine pZo 31 38 HT_ (h := ?_)
  refine pZo 32 39 HT_ (h := ?_)
  refine pZu 33 40 HT_ (h := ?_)
  refine pZu 34 2 HT_ (h := ?_)
  refine done_ (done_of HT_.out (by kernel_rfl)) ?_
  try go_wp2
  go_ret
  exact ⟨EV, BB⟩
end Go.Proofs.Ytpbhoembdoofiaa.B
namespace Go.Proofs.Ytpbhoembdoofiaa.B
open Go.RowKit Go.Proofs.YtpbhoembdoofiaaW.PrintWords Go.Proofs.YtpbhoembdoofiaaW.PrintLast Go.Proofs.YtpbhoembdoofiaaW.PrintMore Go.Proofs.YtpbhoembdoofiaaW.Zc
set_option linter.unusedVariables false
set_option linter.unusedSimpArgs false
def spec_ShopFault.f (k : Nat) (l0_0 : List (S100)) (a0_1 : Int) (l0_2 : List Int) (a0_3 : Int) (a0_4 : Int) (l0_5 : List (S61)) (a1_0 : Int) (a1_1 : Int) (a2 : Int) : Option ((List (S100)) × Int × List Int × Int × Int × (List (S61)) × Bool) := (spec_l38Copy.f l0_0 a0_1 l0_2 a0_3 a0_4 l0_5).bind fun bt184 => ((spec_AddEntry.f l0_5 a1_0 a1_1 a2 a0_4).bind fun bt197 => ((spec_ShopOk.f k l0_0 a0_1 l0_2 a0_3 a0_4 l0_5).bind fun t201 => (if t201 = true then (if bt197.2 = true then (some (bt184.1, bt184.2.1, bt184.2.2.1, bt184.2.2.2.1, bt184.2.2.2.2.1, bt197.1, true)) else (some (bt184.1, bt184.2.1, bt184.2.2.1, bt184.2.2.2.1, bt184.2.2.2.2.1, bt184.2.2.2.2.2, false))) else (some (bt184.1, bt184.2.1, bt184.2.2.1, bt184.2.2.2.1, bt184.2.2.2.2.1, bt184.2.2.2.2.2, false)))))
set_option maxHeartbeats 8000000 in
set_option maxRecDepth 100000 in
theorem spec_ShopFault.calls (k : Nat) (A0_0 : Option Addr) (c0_0 : Nat) (l0_0 : List (S100)) (a0_1 : Int) (A0_2 : Option Addr) (c0_2 : Nat) (l0_2 : List Int) (a0_3 : Int) (a0_4 : Int) (A0_5 : Option Addr) (c0_5 : Nat) (l0_5 : List (S61)) (a1_0 : Int) (a1_1 : Int) (a2 : Int) (r1 : List (S100)) (r2 : Int) (r3 : List Int) (r4 : Int) (r5 : Int) (r6 : List (S61)) (r7 : Bool) (w : World) (hr0_0 : Kd.C k100 w A0_0 l0_0.length l0_0) (hc0_0 : l0_0.length ≤ c0_0) (hr0_2 : Kd.C (Kd.int .i64) w A0_2 l0_2.length l0_2) (hc0_2 : l0_2.length ≤ c0_2) (hr0_5 : Kd.C k61 w A0_5 l0_5.length l0_5) (hc0_5 : l0_5.length ≤ c0_5) (h : spec_ShopFault.f k l0_0 a0_1 l0_2 a0_3 a0_4 l0_5 a1_0 a1_1 a2 = some (r1, r2, r3, r4, r5, r6, r7)) :
    Calls Try.prog 6 #[.agg #[.slice A0_0 l0_0.length c0_0, .int .i64 a0_1, .slice A0_2 l0_2.length c0_2, .int .i64 a0_3, .int .i64 a0_4, .slice A0_5 l0_5.length c0_5], .agg #[.int .i64 a1_0, .int .i64 a1_1], .int .i64 a2] w fun e w' => ∃ v0_ v2_ v5_ : Value, e = .returned (.tuple #[.agg #[v0_, .int .i64 r2, v2_, .int .i64 r4, .int .i64 r5, v5_], .bool r7]) ∧ Kd.R k100 100 w' w.heap.size (fun _ => True) v0_ r1 ∧ Kd.R (Kd.int .i64) 3 w' w.heap.size (fun _ => True) v2_ r3 ∧ Kd.R k61 61 w' w.heap.size (fun _ => True) v5_ r6 ∧ Below w.heap.size w w' := by
 have hu37 := Try.underlying37
 have hu41 := Try.underlying41
 have hu61 := Try.underlying61
 have HR0_0 := Aside0.mk hr0_0
 have HC0_0 := Aside0.mk hc0_0
 clear hr0_0 hc0_0
 have HR0_2 := Aside0.mk hr0_2
 have HC0_2 := Aside0.mk hc0_2
 clear hr0_2 hc0_2
 have HR0_5 := Aside0.mk hr0_5
 have HC0_5 := Aside0.mk hc0_5
 clear hr0_5 hc0_5
 have HB := Aside0.mk (Below.refl w.heap.size w)
 have H : ((spec_l38Copy.f l0_0 a0_1 l0_2 a0_3 a0_4 l0_5).bind fun bt184 => ((spec_AddEntry.f l0_5 a1_0 a1_1 a2 a0_4).bind fun bt197 => ((spec_ShopOk.f k l0_0 a0_1 l0_2 a0_3 a0_4 l0_5).bind fun t201 => (if t201 = true then (if bt197.2 = true then (some (bt184.1, bt184.2.1, bt184.2.2.1, bt184.2.2.2.1, bt184.2.2.2.2.1, bt197.1, true)) else (some (bt184.1, bt184.2.1, bt184.2.2.1, bt184.2.2.2.1, bt184.2.2.2.2.1, bt184.2.2.2.2.2, false))) else (some (bt184.1, bt184.2.1, bt184.2.2.1, bt184.2.2.2.1, bt184.2.2.2.2.1, bt184.2.2.2.2.2, false)))))) = some (r1, r2, r3, r4, r5, r6, r7) := h
 clear h
 obtain ⟨⟨t184, t187, t188, t191, t192, t193⟩, A4, H⟩ := bsI H
 dsimp only at H
 obtain ⟨⟨t197, t200⟩, A5, H⟩ := bsI H
 dsimp only at H
 obtain ⟨t201, A6, H⟩ := bsI H
 by_cases c7 : t201 = true
 ·subst c7
  rw [if_pos rfl] at H
  by_cases c8 : t200 = true
  ·subst c8
   rw [if_pos rfl] at H
   simp only [Option.some.injEq, Prod.mk.injEq] at H
   obtain ⟨rfl, rfl, rfl, rfl, rfl, rfl, rfl⟩ := H
   go_enter Try.func6, Try.ntmps6
   go_wp2_with (first | ((with_reducible refine bZx 3 (h := ?_)); refine bxE #[.slice A0_0 l0_0.length c0_0, .int .i64 a0_1, .slice A0_2 l0_2.length c0_2, .int .i64 a0_3, .int .i64 a0_4, .slice A0_5 l0_5.length c0_5] 37 ?_; intro gb181 hg w9 hbox hb; have BK181 := Aside0.mk (hbox); have GE181 := szB hg; replace HB := bbB hb; clear hb hbox hg) | ((with_reducible refine bZx 4 (h := ?_)); refine bxE #[.int .i64 a1_0, .int .i64 a1_1] 41 ?_; intro gb182 hg w10 hbox hb; have BK182 := Aside0.mk (hbox); have GE182 := szB hg; replace HB := bbB hb; have NB181_182 := nlB BK181 hg; have NB182_181 := ngB BK181 hg; replace BK181 := kbB BK181 hb; clear hb hbox hg) | ((with_reducible refine bZx 6 (h := ?_)); refine bxE #[.slice none 0 0, .int .i64 0, .slice none 0 0, .int .i64 0, .int .i64 0, .slice none 0 0] 37 ?_; intro gb183 hg w11 hbox hb; have BK183 := Aside0.mk (hbox); have GE183 := szB hg; replace HB := bbB hb; have NB181_183 := nlB BK181 hg; have NB183_181 := ngB BK181 hg; replace BK181 := kbB BK181 hb; have NB182_183 := nlB BK182 hg; have NB183_182 := ngB BK182 hg; replace BK182 := kbB BK182 hb; clear hb hbox hg; have hnb12 := NB181_182.out; have hnc12 := NB182_181.out; have hnb13 := NB181_183.out; have hnc13 := NB183_181.out; obtain ⟨hcz14_0, hcz14_1, hcz14_2, hcz14_3, hcz14_4, hcz14_5, hfz14_0, hfz14_1, hfz14_2, hfz14_3, hfz14_4, hfz14_5⟩ := kZc6 BK181) | ((with_reducible refine gZc 24 (h := ?_)); refine gL 12 Try.func24 #[.agg #[.slice A0_0 l0_0.length c0_0, .int .i64 a0_1, .slice A0_2 l0_2.length c0_2, .int .i64 a0_3, .int .i64 a0_4, .slice A0_5 l0_5.length c0_5]] ?_; (with_reducible refine (spec_l38Copy.calls _ _ l0_0 a0_1 _ _ l0_2 a0_3 a0_4 _ _ l0_5 t184 t187 t188 t191 t192 t193 _ ?side1 ?side2 ?side3 ?side4 ?side5 ?side6 A4.out).mono ?_); (case side1 => exact cZr (Kd.C_below HR0_0.out HB.out)); (case side2 => exact HC0_0.out); (case side3 => exact cZr (Kd.C_below HR0_2.out HB.out)); (case side4 => exact HC0_2.out); (case side5 => exact cZr (Kd.C_below HR0_5.out HB.out)); (case side6 => exact HC0_5.out); rintro e w15 ⟨v185, v189, v194, rfl, ho0, ho1, ho2, hb⟩; refine ⟨_, rfl, ?_⟩; have HO186 := rlB ho0; have HO190 := rlB ho1; have HO195 := rlB ho2; replace BK181 := kbB BK181 hb; replace BK182 := kbB BK182 hb; replace BK183 := kbB BK183 hb; replace HB := bbB hb; (try clear hb); (try clear ho0); (try clear ho1); (try clear ho2)) | ((with_reducible refine bZx 8 (h := ?_)); refine bxE #[.slice none 0 0, .int .i64 0, .slice none 0 0, .int .i64 0, .int .i64 0, .slice none 0 0] 37 ?_; intro gb196 hg w16 hbox hb; replace HO186 := rbB HO186 hb; replace HO190 := rbB HO190 hb; replace HO195 := rbB HO195 hb; have BK196 := Aside0.mk (hbox); have GE196 := szB hg; replace HB := bbB hb; have NB181_196 := nlB BK181 hg; have NB196_181 := ngB BK181 hg; replace BK181 := kbB BK181 hb; have NB182_196 := nlB BK182 hg; have NB196_182 := ngB BK182 hg; replace BK182 := kbB BK182 hb; have NB183_196 := nlB BK183 hg; have NB196_183 := ngB BK183 hg; replace BK183 := kbB BK183 hb; clear hb hbox hg; obtain ⟨Ao17, co17, eo17⟩ := Kd.R_slice HO186.out; subst eo17; have hnb18 := NB196_181.out; have hnc18 := NB181_196.out; have hnb19 := NB196_182.out; have hnc19 := NB182_196.out; have hnb20 := NB196_183.out; have hnc20 := NB183_196.out; obtain ⟨hcz21_0, hcz21_1, hcz21_2, hcz21_3, hcz21_4, hcz21_5, hfz21_0, hfz21_1, hfz21_2, hfz21_3, hfz21_4, hfz21_5⟩ := kZc6 BK196; obtain ⟨Ao22, co22, eo22⟩ := Kd.R_slice HO190.out; subst eo22; obtain ⟨Ao23, co23, eo23⟩ := Kd.R_slice HO195.out; subst eo23; obtain ⟨hcz24_0, hcz24_1, hcz24_2, hcz24_3, hcz24_4, hcz24_5, hfz24_0, hfz24_1, hfz24_2, hfz24_3, hfz24_4, hfz24_5⟩ := kZc6 BK181; have hnb25 := NB182_183.out; have hnc25 := NB183_182.out; obtain ⟨hcz26_0, hcz26_1, hfz26_0, hfz26_1⟩ := kZc2 BK182) | ((with_reducible refine gZc 25 (h := ?_)); refine gL 21 Try.func25 #[.slice A0_5 l0_5.length c0_5, .agg #[.int .i64 a1_0, .int .i64 a1_1, .int .i64 a2, .int .i64 a0_4]] ?_; (with_reducible refine (spec_AddEntry.calls _ _ l0_5 a1_0 a1_1 a2 a0_4 t197 true _ ?side1 ?side2 A5.out).mono ?_); (case side1 => exact Kd.C_below HR0_5.out BB); (case side2 => exact HC0_5.out); rintro e w27 ⟨v198, rfl, ho0, hb⟩; refine ⟨_, rfl, ?_⟩; replace HO186 := Aside0.mk (Kd.R_below (rZz HO186) hb); replace HO190 := Aside0.mk (Kd.R_below (rZz HO190) hb); have HO199 := Aside0.mk (Kd.R_lower (Kd.R_new' ho0 (Kd.R_lt (rZz HO195))) (below_size BB)); replace HO195 := Aside0.mk (Kd.R_elder' (rZz HO195) (Kd.R_base ho0) hb); replace BK181 := Aside0.mk (blk_below (g := gb181) (o := .cells #[.slice A0_0 l0_0.length c0_0, .int .i64 a0_1, .slice A0_2 l0_2.length c0_2, .int .i64 a0_3, .int .i64 a0_4, .slice A0_5 l0_5.length c0_5] 37 (0, 0)) (kZq BK181) hb); replace BK182 := Aside0.mk (blk_below (g := gb182) (o := .cells #[.int .i64 a1_0, .int .i64 a1_1] 41 (0, 0)) (kZq BK182) hb); replace BK183 := Aside0.mk (blk_below (g := gb183) (o := .cells #[.slice none 0 0, .int .i64 0, .slice none 0 0, .int .i64 0, .int .i64 0, .slice none 0 0] 37 (0, 0)) (kZq BK183) hb); replace BK196 := Aside0.mk (blk_below (g := gb196) (o := .cells #[.slice Ao17 t184.length co17, .int .i64 t187, .slice Ao22 t188.length co22, .int .i64 t191, .int .i64 t192, .slice Ao23 t193.length co23] 37 (0, 0)) (kZq BK196) hb); replace HB := bbB hb; (try clear hb); (try clear ho0); obtain ⟨hcz28_0, hcz28_1, hcz28_2, hcz28_3, hcz28_4, hcz28_5, hfz28_0, hfz28_1, hfz28_2, hfz28_3, hfz28_4, hfz28_5⟩ := kZc6 BK181) | ((with_reducible refine gZc 26 (h := ?_)); refine gL 25 Try.func26 #[.agg #[.slice A0_0 l0_0.length c0_0, .int .i64 a0_1, .slice A0_2 l0_2.length c0_2, .int .i64 a0_3, .int .i64 a0_4, .slice A0_5 l0_5.length c0_5]] ?_; (with_reducible refine (spec_ShopOk.calls k _ _ l0_0 a0_1 _ _ l0_2 a0_3 a0_4 _ _ l0_5 true _ ?side1 ?side2 ?side3 ?side4 ?side5 ?side6 A6.out).mono ?_); (case side1 => exact cZr (Kd.C_below HR0_0.out HB.out)); (case side2 => exact HC0_0.out); (case side3 => exact cZr (Kd.C_below HR0_2.out HB.out)); (case side4 => exact HC0_2.out); (case side5 => exact cZr (Kd.C_below HR0_5.out HB.out)); (case side6 => exact HC0_5.out); rintro e w29 ⟨rfl, hb⟩; refine ⟨_, rfl, ?_⟩; replace HO186 := rbB HO186 hb; replace HO190 := rbB HO190 hb; replace HO195 := rbB HO195 hb; replace HO199 := rbB HO199 hb; replace BK181 := kbB BK181 hb; replace BK182 := kbB BK182 hb; replace BK183 := kbB BK183 hb; replace BK196 := kbB BK196 hb; replace HB := bbB hb; (try clear hb); obtain ⟨Ao30, co30, eo30⟩ := Kd.R_slice HO199.out; subst eo30; obtain ⟨hcz31_0, hcz31_1, hcz31_2, hcz31_3, hcz31_4, hcz31_5, hfz31_0, hfz31_1, hfz31_2, hfz31_3, hfz31_4, hfz31_5⟩ := kZc6 BK196; obtain ⟨hcz32_0, hcz32_1, hcz32_2, hcz32_3, hcz32_4, hcz32_5, hfz32_0, hfz32_1, hfz32_2, hfz32_3, hfz32_4, hfz32_5⟩ := kZc6 BK183))
   refine bodyPost_ret (results_ct rfl _ _ gb183 37 #[.slice Ao17 t184.length co17, .int .i64 t187, .slice Ao22 t188.length co22, .int .i64 t191, .int .i64 t192, .slice Ao30 t197.length co30] (0, 0) _ rfl (kZq BK183) Try.underlying37 rfl (by kernel_rfl)) rfl ?_
   exact ⟨_, _, _, EV, by (with_reducible repeat (first | apply Kd.R_alloc | apply Kd.R_drewN | apply Kd.R_drew)); exact Kd.R_mono (Kd.R_far (p := ⟨gb183, 5, none⟩) (Kd.R_far (p := ⟨gb183, 4, none⟩) (Kd.R_far (p := ⟨gb183, 3, none⟩) (Kd.R_far (p := ⟨gb183, 2, none⟩) (Kd.R_far (p := ⟨gb183, 1, none⟩) (Kd.R_far (p := ⟨gb183, 0, none⟩) (Kd.R_far (p := ⟨gb196, 5, none⟩) (Kd.R_types (Kd.R_types HO186.out BK196.out (by decide)) BK183.out (by decide)) (fun _ hk => hk.1.2) (.slice Ao30 t197.length co30)) (fun _ hk => hk.2) (.slice Ao17 t184.length co17)) (fun _ hk => hk.2) (.int .i64 t187)) (fun _ hk => hk.2) (.slice Ao22 t188.length co22)) (fun _ hk => hk.2) (.int .i64 t191)) (fun _ hk => hk.2) (.int .i64 t192)) (fun _ hk => hk.2) (.slice Ao30 t197.length co30)) (fun _ hk => trivial), by (with_reducible repeat (first | apply Kd.R_alloc | apply Kd.R_drewN | apply Kd.R_drew)); exact Kd.R_mono (Kd.R_far (p := ⟨gb183, 5, none⟩) (Kd.R_far (p := ⟨gb183, 4, none⟩) (Kd.R_far (p := ⟨gb183, 3, none⟩) (Kd.R_far (p := ⟨gb183, 2, none⟩) (Kd.R_far (p := ⟨gb183, 1, none⟩) (Kd.R_far (p := ⟨gb183, 0, none⟩) (Kd.R_far (p := ⟨gb196, 5, none⟩) (Kd.R_types (Kd.R_types HO190.out BK196.out (by decide)) BK183.out (by decide)) (fun _ hk => hk.1.2) (.slice Ao30 t197.length co30)) (fun _ hk => hk.2) (.slice Ao17 t184.length co17)) (fun _ hk => hk.2) (.int .i64 t187)) (fun _ hk => hk.2) (.slice Ao22 t188.length co22)) (fun _ hk => hk.2) (.int .i64 t191)) (fun _ hk => hk.2) (.int .i64 t192)) (fun _ hk => hk.2) (.slice Ao30 t197.length co30)) (fun _ hk => trivial), by (with_reducible repeat (first | apply Kd.R_alloc | apply Kd.R_drewN | apply Kd.R_drew)); exact Kd.R_mono (Kd.R_far (p := ⟨gb183, 5, none⟩) (Kd.R_far (p := ⟨gb183, 4, none⟩) (Kd.R_far (p := ⟨gb183, 3, none⟩) (Kd.R_far (p := ⟨gb183, 2, none⟩) (Kd.R_far (p := ⟨gb183, 1, none⟩) (Kd.R_far (p := ⟨gb183, 0, none⟩) (Kd.R_far (p := ⟨gb196, 5, none⟩) (Kd.R_types (Kd.R_types HO199.out BK196.out (by decide)) BK183.out (by decide)) (fun _ hk => hk.1.2) (.slice Ao30 t197.length co30)) (fun _ hk => hk.2) (.slice Ao17 t184.length co17)) (fun _ hk => hk.2) (.int .i64 t187)) (fun _ hk => hk.2) (.slice Ao22 t188.length co22)) (fun _ hk => hk.2) (.int .i64 t191)) (fun _ hk => hk.2) (.int .i64 t192)) (fun _ hk => hk.2) (.slice Ao30 t197.length co30)) (fun _ hk => trivial), BB⟩
  ·replace c8 := Bool.eq_false_iff.mpr c8
   subst c8
   rw [if_neg nft] at H
   simp only [Option.some.injEq, Prod.mk.injEq] at H
   obtain ⟨rfl, rfl, rfl, rfl, rfl, rfl, rfl⟩ := H
   go_enter Try.func6, Try.ntmps6
   go_wp2_with (first | ((with_reducible refine bZx 3 (h := ?_)); refine bxE #[.slice A0_0 l0_0.length c0_0, .int .i64 a0_1, .slice A0_2 l0_2.length c0_2, .int .i64 a0_3, .int .i64 a0_4, .slice A0_5 l0_5.length c0_5] 37 ?_; intro gb181 hg w33 hbox hb; have BK181 := Aside0.mk (hbox); have GE181 := szB hg; replace HB := bbB hb; clear hb hbox hg) | ((with_reducible refine bZx 4 (h := ?_)); refine bxE #[.int .i64 a1_0, .int .i64 a1_1] 41 ?_; intro gb182 hg w34 hbox hb; have BK182 := Aside0.mk (hbox); have GE182 := szB hg; replace HB := bbB hb; have NB181_182 := nlB BK181 hg; have NB182_181 := ngB BK181 hg; replace BK181 := kbB BK181 hb; clear hb hbox hg) | ((with_reducible refine bZx 6 (h := ?_)); refine bxE #[.slice none 0 0, .int .i64 0, .slice none 0 0, .int .i64 0, .int .i64 0, .slice none 0 0] 37 ?_; intro gb183 hg w35 hbox hb; have BK183 := Aside0.mk (hbox); have GE183 := szB hg; replace HB := bbB hb; have NB181_183 := nlB BK181 hg; have NB183_181 := ngB BK181 hg; replace BK181 := kbB BK181 hb; have NB182_183 := nlB BK182 hg; have NB183_182 := ngB BK182 hg; replace BK182 := kbB BK182 hb; clear hb hbox hg; have hnb36 := NB181_182.out; have hnc36 := NB182_181.out; have hnb37 := NB181_183.out; have hnc37 := NB183_181.out; obtain ⟨hcz38_0, hcz38_1, hcz38_2, hcz38_3, hcz38_4, hcz38_5, hfz38_0, hfz38_1, hfz38_2, hfz38_3, hfz38_4, hfz38_5⟩ := kZc6 BK181) | ((with_reducible refine gZc 24 (h := ?_)); refine gL 12 Try.func24 #[.agg #[.slice A0_0 l0_0.length c0_0, .int .i64 a0_1, .slice A0_2 l0_2.length c0_2, .int .i64 a0_3, .int .i64 a0_4, .slice A0_5 l0_5.length c0_5]] ?_; (with_reducible refine (spec_l38Copy.calls _ _ l0_0 a0_1 _ _ l0_2 a0_3 a0_4 _ _ l0_5 t184 t187 t188 t191 t192 t193 _ ?side1 ?side2 ?side3 ?side4 ?side5 ?side6 A4.out).mono ?_); (case side1 => exact cZr (Kd.C_below HR0_0.out HB.out)); (case side2 => exact HC0_0.out); (case side3 => exact cZr (Kd.C_below HR0_2.out HB.out)); (case side4 => exact HC0_2.out); (case side5 => exact cZr (Kd.C_below HR0_5.out HB.out)); (case side6 => exact HC0_5.out); rintro e w39 ⟨v185, v189, v194, rfl, ho0, ho1, ho2, hb⟩; refine ⟨_, rfl, ?_⟩; have HO186 := rlB ho0; have HO190 := rlB ho1; have HO195 := rlB ho2; replace BK181 := kbB BK181 hb; replace BK182 := kbB BK182 hb; replace BK183 := kbB BK183 hb; replace HB := bbB hb; (try clear hb); (try clear ho0); (try clear ho1); (try clear ho2)) | ((with_reducible refine bZx 8 (h := ?_)); refine bxE #[.slice none 0 0, .int .i64 0, .slice none 0 0, .int .i64 0, .int .i64 0, .slice none 0 0] 37 ?_; intro gb196 hg w40 hbox hb; replace HO186 := rbB HO186 hb; replace HO190 := rbB HO190 hb; replace HO195 := rbB HO195 hb; have BK196 := Aside0.mk (hbox); have GE196 := szB hg; replace HB := bbB hb; have NB181_196 := nlB BK181 hg; have NB196_181 := ngB BK181 hg; replace BK181 := kbB BK181 hb; have NB182_196 := nlB BK182 hg; have NB196_182 := ngB BK182 hg; replace BK182 := kbB BK182 hb; have NB183_196 := nlB BK183 hg; have NB196_183 := ngB BK183 hg; replace BK183 := kbB BK183 hb; clear hb hbox hg; obtain ⟨Ao41, co41, eo41⟩ := Kd.R_slice HO186.out; subst eo41; have hnb42 := NB196_181.out; have hnc42 := NB181_196.out; have hnb43 := NB196_182.out; have hnc43 := NB182_196.out; have hnb44 := NB196_183.out; have hnc44 := NB183_196.out; obtain ⟨hcz45_0, hcz45_1, hcz45_2, hcz45_3, hcz45_4, hcz45_5, hfz45_0, hfz45_1, hfz45_2, hfz45_3, hfz45_4, hfz45_5⟩ := kZc6 BK196; obtain ⟨Ao46, co46, eo46⟩ := Kd.R_slice HO190.out; subst eo46; obtain ⟨Ao47, co47, eo47⟩ := Kd.R_slice HO195.out; subst eo47; obtain ⟨hcz48_0, hcz48_1, hcz48_2, hcz48_3, hcz48_4, hcz48_5, hfz48_0, hfz48_1, hfz48_2, hfz48_3, hfz48_4, hfz48_5⟩ := kZc6 BK181; have hnb49 := NB182_183.out; have hnc49 := NB183_182.out; obtain ⟨hcz50_0, hcz50_1, hfz50_0, hfz50_1⟩ := kZc2 BK182) | ((with_reducible refine gZc 25 (h := ?_)); refine gL 21 Try.func25 #[.slice A0_5 l0_5.length c0_5, .agg #[.int .i64 a1_0, .int .i64 a1_1, .int .i64 a2, .int .i64 a0_4]] ?_; (with_reducible refine (spec_AddEntry.calls _ _ l0_5 a1_0 a1_1 a2 a0_4 t197 false _ ?side1 ?side2 A5.out).mono ?_); (case side1 => exact Kd.C_below HR0_5.out BB); (case side2 => exact HC0_5.out); rintro e w51 ⟨v198, rfl, ho0, hb⟩; refine ⟨_, rfl, ?_⟩; replace HO186 := Aside0.mk (Kd.R_below (rZz HO186) hb); replace HO190 := Aside0.mk (Kd.R_below (rZz HO190) hb); have HO199 := Aside0.mk (Kd.R_lower (Kd.R_new' ho0 (Kd.R_lt (rZz HO195))) (below_size BB)); replace HO195 := Aside0.mk (Kd.R_elder' (rZz HO195) (Kd.R_base ho0) hb); replace BK181 := Aside0.mk (blk_below (g := gb181) (o := .cells #[.slice A0_0 l0_0.length c0_0, .int .i64 a0_1, .slice A0_2 l0_2.length c0_2, .int .i64 a0_3, .int .i64 a0_4, .slice A0_5 l0_5.length c0_5] 37 (0, 0)) (kZq BK181) hb); replace BK182 := Aside0.mk (blk_below (g := gb182) (o := .cells #[.int .i64 a1_0, .int .i64 a1_1] 41 (0, 0)) (kZq BK182) hb); replace BK183 := Aside0.mk (blk_below (g := gb183) (o := .cells #[.slice none 0 0, .int .i64 0, .slice none 0 0, .int .i64 0, .int .i64 0, .slice none 0 0] 37 (0, 0)) (kZq BK183) hb); replace BK196 := Aside0.mk (blk_below (g := gb196) (o := .cells #[.slice Ao41 t184.length co41, .int .i64 t187, .slice Ao46 t188.length co46, .int .i64 t191, .int .i64 t192, .slice Ao47 t193.length co47] 37 (0, 0)) (kZq BK196) hb); replace HB := bbB hb; (try clear hb); (try clear ho0); obtain ⟨hcz52_0, hcz52_1, hcz52_2, hcz52_3, hcz52_4, hcz52_5, hfz52_0, hfz52_1, hfz52_2, hfz52_3, hfz52_4, hfz52_5⟩ := kZc6 BK181) | ((with_reducible refine gZc 26 (h := ?_)); refine gL 25 Try.func26 #[.agg #[.slice A0_0 l0_0.length c0_0, .int .i64 a0_1, .slice A0_2 l0_2.length c0_2, .int .i64 a0_3, .int .i64 a0_4, .slice A0_5 l0_5.length c0_5]] ?_; (with_reducible refine (spec_ShopOk.calls k _ _ l0_0 a0_1 _ _ l0_2 a0_3 a0_4 _ _ l0_5 true _ ?side1 ?side2 ?side3 ?side4 ?side5 ?side6 A6.out).mono ?_); (case side1 => exact cZr (Kd.C_below HR0_0.out HB.out)); (case side2 => exact HC0_0.out); (case side3 => exact cZr (Kd.C_below HR0_2.out HB.out)); (case side4 => exact HC0_2.out); (case side5 => exact cZr (Kd.C_below HR0_5.out HB.out)); (case side6 => exact HC0_5.out); rintro e w53 ⟨rfl, hb⟩; refine ⟨_, rfl, ?_⟩; replace HO186 := rbB HO186 hb; replace HO190 := rbB HO190 hb; replace HO195 := rbB HO195 hb; replace HO199 := rbB HO199 hb; replace BK181 := kbB BK181 hb; replace BK182 := kbB BK182 hb; replace BK183 := kbB BK183 hb; replace BK196 := kbB BK196 hb; replace HB := bbB hb; (try clear hb); obtain ⟨hcz54_0, hcz54_1, hcz54_2, hcz54_3, hcz54_4, hcz54_5, hfz54_0, hfz54_1, hfz54_2, hfz54_3, hfz54_4, hfz54_5⟩ := kZc6 BK196; obtain ⟨hcz55_0, hcz55_1, hcz55_2, hcz55_3, hcz55_4, hcz55_5, hfz55_0, hfz55_1, hfz55_2, hfz55_3, hfz55_4, hfz55_5⟩ := kZc6 BK183))
   refine bodyPost_ret (results_ct rfl _ _ gb183 37 #[.slice Ao41 t184.length co41, .int .i64 t187, .slice Ao46 t188.length co46, .int .i64 t191, .int .i64 t192, .slice Ao47 t193.length co47] (0, 0) _ rfl (kZq BK183) Try.underlying37 rfl (by kernel_rfl)) rfl ?_
   exact ⟨_, _, _, EV, rZz HO186, rZz HO190, rZz HO195, BB⟩
 ·replace c7 := Bool.eq_false_iff.mpr c7
  subst c7
  rw [if_neg nft] at H
  simp only [Option.some.injEq, Prod.mk.injEq] at H
  obtain ⟨rfl, rfl, rfl, rfl, rfl, rfl, rfl⟩ := H
  go_enter Try.func6, Try.ntmps6
  go_wp2_with (first | ((with_reducible refine bZx 3 (h := ?_)); refine bxE #[.slice A0_0 l0_0.length c0_0, .int .i64 a0_1, .slice A0_2 l0_2.length c0_2, .int .i64 a0_3, .int .i64 a0_4, .slice A0_5 l0_5.length c0_5] 37 ?_; intro gb181 hg w56 hbox hb; have BK181 := Aside0.mk (hbox); have GE181 := szB hg; replace HB := bbB hb; clear hb hbox hg) | ((with_reducible refine bZx 4 (h := ?_)); refine bxE #[.int .i64 a1_0, .int .i64 a1_1] 41 ?_; intro gb182 hg w57 hbox hb; have BK182 := Aside0.mk (hbox); have GE182 := szB hg; replace HB := bbB hb; have NB181_182 := nlB BK181 hg; have NB182_181 := ngB BK181 hg; replace BK181 := kbB BK181 hb; clear hb hbox hg) | ((with_reducible refine bZx 6 (h := ?_)); refine bxE #[.slice none 0 0, .int .i64 0, .slice none 0 0, .int .i64 0, .int .i64 0, .slice none 0 0] 37 ?_; intro gb183 hg w58 hbox hb; have BK183 := Aside0.mk (hbox); have GE183 := szB hg; replace HB := bbB hb; have NB181_183 := nlB BK181 hg; have NB183_181 := ngB BK181 hg; replace BK181 := kbB BK181 hb; have NB182_183 := nlB BK182 hg; have NB183_182 := ngB BK182 hg; replace BK182 := kbB BK182 hb; clear hb hbox hg; have hnb59 := NB181_182.out; have hnc59 := NB182_181.out; have hnb60 := NB181_183.out; have hnc60 := NB183_181.out; obtain ⟨hcz61_0, hcz61_1, hcz61_2, hcz61_3, hcz61_4, hcz61_5, hfz61_0, hfz61_1, hfz61_2, hfz61_3, hfz61_4, hfz61_5⟩ := kZc6 BK181) | ((with_reducible refine gZc 24 (h := ?_)); refine gL 12 Try.func24 #[.agg #[.slice A0_0 l0_0.length c0_0, .int .i64 a0_1, .slice A0_2 l0_2.length c0_2, .int .i64 a0_3, .int .i64 a0_4, .slice A0_5 l0_5.length c0_5]] ?_; (with_reducible refine (spec_l38Copy.calls _ _ l0_0 a0_1 _ _ l0_2 a0_3 a0_4 _ _ l0_5 t184 t187 t188 t191 t192 t193 _ ?side1 ?side2 ?side3 ?side4 ?side5 ?side6 A4.out).mono ?_); (case side1 => exact cZr (Kd.C_below HR0_0.out HB.out)); (case side2 => exact HC0_0.out); (case side3 => exact cZr (Kd.C_below HR0_2.out HB.out)); (case side4 => exact HC0_2.out); (case side5 => exact cZr (Kd.C_below HR0_5.out HB.out)); (case side6 => exact HC0_5.out); rintro e w62 ⟨v185, v189, v194, rfl, ho0, ho1, ho2, hb⟩; refine ⟨_, rfl, ?_⟩; have HO186 := rlB ho0; have HO190 := rlB ho1; have HO195 := rlB ho2; replace BK181 := kbB BK181 hb; replace BK182 := kbB BK182 hb; replace BK183 := kbB BK183 hb; replace HB := bbB hb; (try clear hb); (try clear ho0); (try clear ho1); (try clear ho2)) | ((with_reducible refine bZx 8 (h := ?_)); refine bxE #[.slice none 0 0, .int .i64 0, .slice none 0 0, .int .i64 0, .int .i64 0, .slice none 0 0] 37 ?_; intro gb196 hg w63 hbox hb; replace HO186 := rbB HO186 hb; replace HO190 := rbB HO190 hb; replace HO195 := rbB HO195 hb; have BK196 := Aside0.mk (hbox); have GE196 := szB hg; replace HB := bbB hb; have NB181_196 := nlB BK181 hg; have NB196_181 := ngB BK181 hg; replace BK181 := kbB BK181 hb; have NB182_196 := nlB BK182 hg; have NB196_182 := ngB BK182 hg; replace BK182 := kbB BK182 hb; have NB183_196 := nlB BK183 hg; have NB196_183 := ngB BK183 hg; replace BK183 := kbB BK183 hb; clear hb hbox hg; obtain ⟨Ao64, co64, eo64⟩ := Kd.R_slice HO186.out; subst eo64; have hnb65 := NB196_181.out; have hnc65 := NB181_196.out; have hnb66 := NB196_182.out; have hnc66 := NB182_196.out; have hnb67 := NB196_183.out; have hnc67 := NB183_196.out; obtain ⟨hcz68_0, hcz68_1, hcz68_2, hcz68_3, hcz68_4, hcz68_5, hfz68_0, hfz68_1, hfz68_2, hfz68_3, hfz68_4, hfz68_5⟩ := kZc6 BK196; obtain ⟨Ao69, co69, eo69⟩ := Kd.R_slice HO190.out; subst eo69; obtain ⟨Ao70, co70, eo70⟩ := Kd.R_slice HO195.out; subst eo70; obtain ⟨hcz71_0, hcz71_1, hcz71_2, hcz71_3, hcz71_4, hcz71_5, hfz71_0, hfz71_1, hfz71_2, hfz71_3, hfz71_4, hfz71_5⟩ := kZc6 BK181; have hnb72 := NB182_183.out; have hnc72 := NB183_182.out; obtain ⟨hcz73_0, hcz73_1, hfz73_0, hfz73_1⟩ := kZc2 BK182) | ((with_reducible refine gZc 25 (h := ?_)); refine gL 21 Try.func25 #[.slice A0_5 l0_5.length c0_5, .agg #[.int .i64 a1_0, .int .i64 a1_1, .int .i64 a2, .int .i64 a0_4]] ?_; (with_reducible refine (spec_AddEntry.calls _ _ l0_5 a1_0 a1_1 a2 a0_4 t197 t200 _ ?side1 ?side2 A5.out).mono ?_); (case side1 => exact Kd.C_below HR0_5.out BB); (case side2 => exact HC0_5.out); rintro e w74 ⟨v198, rfl, ho0, hb⟩; refine ⟨_, rfl, ?_⟩; replace HO186 := Aside0.mk (Kd.R_below (rZz HO186) hb); replace HO190 := Aside0.mk (Kd.R_below (rZz HO190) hb); have HO199 := Aside0.mk (Kd.R_lower (Kd.R_new' ho0 (Kd.R_lt (rZz HO195))) (below_size BB)); replace HO195 := Aside0.mk (Kd.R_elder' (rZz HO195) (Kd.R_base ho0) hb); replace BK181 := Aside0.mk (blk_below (g := gb181) (o := .cells #[.slice A0_0 l0_0.length c0_0, .int .i64 a0_1, .slice A0_2 l0_2.length c0_2, .int .i64 a0_3, .int .i64 a0_4, .slice A0_5 l0_5.length c0_5] 37 (0, 0)) (kZq BK181) hb); replace BK182 := Aside0.mk (blk_below (g := gb182) (o := .cells #[.int .i64 a1_0, .int .i64 a1_1] 41 (0, 0)) (kZq BK182) hb); replace BK183 := Aside0.mk (blk_below (g := gb183) (o := .cells #[.slice none 0 0, .int .i64 0, .slice none 0 0, .int .i64 0, .int .i64 0, .slice none 0 0] 37 (0, 0)) (kZq BK183) hb); replace BK196 := Aside0.mk (blk_below (g := gb196) (o := .cells #[.slice Ao64 t184.length co64, .int .i64 t187, .slice Ao69 t188.length co69, .int .i64 t191, .int .i64 t192, .slice Ao70 t193.length co70] 37 (0, 0)) (kZq BK196) hb); replace HB := bbB hb; (try clear hb); (try clear ho0); obtain ⟨hcz75_0, hcz75_1, hcz75_2, hcz75_3, hcz75_4, hcz75_5, hfz75_0, hfz75_1, hfz75_2, hfz75_3, hfz75_4, hfz75_5⟩ := kZc6 BK181) | ((with_reducible refine gZc 26 (h := ?_)); refine gL 25 Try.func26 #[.agg #[.slice A0_0 l0_0.length c0_0, .int .i64 a0_1, .slice A0_2 l0_2.length c0_2, .int .i64 a0_3, .int .i64 a0_4, .slice A0_5 l0_5.length c0_5]] ?_; (with_reducible refine (spec_ShopOk.calls k _ _ l0_0 a0_1 _ _ l0_2 a0_3 a0_4 _ _ l0_5 false _ ?side1 ?side2 ?side3 ?side4 ?side5 ?side6 A6.out).mono ?_); (case side1 => exact cZr (Kd.C_below HR0_0.out HB.out)); (case side2 => exact HC0_0.out); (case side3 => exact cZr (Kd.C_below HR0_2.out HB.out)); (case side4 => exact HC0_2.out); (case side5 => exact cZr (Kd.C_below HR0_5.out HB.out)); (case side6 => exact HC0_5.out); rintro e w76 ⟨rfl, hb⟩; refine ⟨_, rfl, ?_⟩; replace HO186 := rbB HO186 hb; replace HO190 := rbB HO190 hb; replace HO195 := rbB HO195 hb; replace HO199 := rbB HO199 hb; replace BK181 := kbB BK181 hb; replace BK182 := kbB BK182 hb; replace BK183 := kbB BK183 hb; replace BK196 := kbB BK196 hb; replace HB := bbB hb; (try clear hb); obtain ⟨hcz77_0, hcz77_1, hcz77_2, hcz77_3, hcz77_4, hcz77_5, hfz77_0, hfz77_1, hfz77_2, hfz77_3, hfz77_4, hfz77_5⟩ := kZc6 BK196; obtain ⟨hcz78_0, hcz78_1, hcz78_2, hcz78_3, hcz78_4, hcz78_5, hfz78_0, hfz78_1, hfz78_2, hfz78_3, hfz78_4, hfz78_5⟩ := kZc6 BK183))
  refine bodyPost_ret (results_ct rfl _ _ gb183 37 #[.slice Ao64 t184.length co64, .int .i64 t187, .slice Ao69 t188.length co69, .int .i64 t191, .int .i64 t192, .slice Ao70 t193.length co70] (0, 0) _ rfl (kZq BK183) Try.underlying37 rfl (by kernel_rfl)) rfl ?_
  exact ⟨_, _, _, EV, rZz HO186, rZz HO190, rZz HO195, BB⟩
end Go.Proofs.Ytpbhoembdoofiaa.B
namespace Go.Proofs.Ytpbhoembdoofiaa.B
open Go.RowKit Go.Proofs.YtpbhoembdoofiaaW.PrintWords Go.Proofs.YtpbhoembdoofiaaW.PrintLast Go.Proofs.YtpbhoembdoofiaaW.PrintMore Go.Proofs.YtpbhoembdoofiaaW.Zc
set_option linter.unusedVariables false
set_option linter.unusedSimpArgs false
def laws_szIntS.f (l0 : List Int) (a1 : Int) : Option (Int) := if (wrap64 (a1 - (l0.length : Int))) < 0 then (some (-1)) else (some (wrap64 (a1 - (l0.length : Int))))
set_option maxHeartbeats 8000000 in
set_option maxRecDepth 100000 in
theorem laws_szIntS.calls (A0 : Option Addr) (c0 : Nat) (l0 : List Int) (a1 : Int) (r : Int) (w : World) (hr0 : Kd.C (Kd.int .i64) w A0 l0.length l0) (hc0 : l0.length ≤ c0) (h : laws_szIntS.f l0 a1 = some r) :
    Calls Try.prog 48 #[.slice A0 l0.length c0, .int .i64 a1] w fun e w' => e = .returned (.int .i64 r) ∧ Drawn0 w w' := by
 have HR0 := Aside0.mk hr0
 have HC0 := Aside0.mk hc0
 clear hr0 hc0
 have H : (if (wrap64 (a1 - (l0.length : Int))) < 0 then (some (-1)) else (some (wrap64 (a1 - (l0.length : Int))))) = some r := h
 clear h
 by_cases c3 : (wrap64 (a1 - (l0.length : Int))) < 0
 ·rw [if_pos c3] at H
  have c3b0 := decide_eq_true c3
  clear c3
  obtain rfl := Option.some.inj H
  go_enter Try.func48, Try.ntmps48
  go_wp2
  go_ret
  exact ⟨RF, DR⟩
 ·rw [if_neg c3] at H
  have c3b0 := decide_eq_false c3
  clear c3
  obtain rfl := Option.some.inj H
  go_enter Try.func48, Try.ntmps48
  go_wp2
  go_ret
  exact ⟨RF, DR⟩
end Go.Proofs.Ytpbhoembdoofiaa.B
namespace Go.Proofs.Ytpbhoembdoofiaa.B
open Go.RowKit Go.Proofs.YtpbhoembdoofiaaW.PrintWords Go.Proofs.YtpbhoembdoofiaaW.PrintLast Go.Proofs.YtpbhoembdoofiaaW.PrintMore Go.Proofs.YtpbhoembdoofiaaW.Zc
set_option linter.unusedVariables false
set_option linter.unusedSimpArgs false
def laws_toWork.f (k : Nat) (l0_0 : List (S107)) (a0_1 : Int) (l0_2 : List Int) : Option ((List (S100)) × Int × List Int) := (laws_toStepS.f k l0_0).bind fun t222 => ((laws_toIntS.f k l0_2).bind fun t225 => (some (t222, a0_1, t225)))
set_option maxHeartbeats 8000000 in
set_option maxRecDepth 100000 in
theorem laws_toWork.calls (k : Nat) (A0_0 : Option Addr) (c0_0 : Nat) (l0_0 : List (S107)) (a0_1 : Int) (A0_2 : Option Addr) (c0_2 : Nat) (l0_2 : List Int) (r1 : List (S100)) (r2 : Int) (r3 : List Int) (w : World) (hr0_0 : Kd.C k107 w A0_0 l0_0.length l0_0) (hc0_0 : l0_0.length ≤ c0_0) (hr0_2 : Kd.C (Kd.int .i64) w A0_2 l0_2.length l0_2) (hc0_2 : l0_2.length ≤ c0_2) (h : laws_toWork.f k l0_0 a0_1 l0_2 = some (r1, r2, r3)) :
    Calls Try.prog 27 #[.agg #[.slice A0_0 l0_0.length c0_0, .int .i64 a0_1, .slice A0_2 l0_2.length c0_2]] w fun e w' => ∃ v0_ v2_ : Value, e = .returned (.agg #[v0_, .int .i64 r2, v2_]) ∧ Kd.R k100 100 w' w.heap.size (fun _ => True) v0_ r1 ∧ Kd.R (Kd.int .i64) 3 w' w.heap.size (fun _ => True) v2_ r3 ∧ Below w.heap.size w w' := by
 have hu25 := Try.underlying25
 have hu34 := Try.underlying34
 have HR0_0 := Aside0.mk hr0_0
 have HC0_0 := Aside0.mk hc0_0
 clear hr0_0 hc0_0
 have HR0_2 := Aside0.mk hr0_2
 have HC0_2 := Aside0.mk hc0_2
 clear hr0_2 hc0_2
 have HB := Aside0.mk (Below.refl w.heap.size w)
 have H : ((laws_toStepS.f k l0_0).bind fun t222 => ((laws_toIntS.f k l0_2).bind fun t225 => (some (t222, a0_1, t225)))) = some (r1, r2, r3) := h
 clear h
 obtain ⟨t222, A2, H⟩ := bsI H
 obtain ⟨t225, A3, H⟩ := bsI H
 simp only [Option.some.injEq, Prod.mk.injEq] at H
 obtain ⟨rfl, rfl, rfl⟩ := H
 go_enter Try.func27, Try.ntmps27
 go_wp2_with (first | ((with_reducible refine bZx 1 (h := ?_)); refine bxE #[.slice A0_0 l0_0.length c0_0, .int .i64 a0_1, .slice A0_2 l0_2.length c0_2] 25 ?_; intro gb219 hg w4 hbox hb; have BK219 := Aside0.mk (hbox); have GE219 := szB hg; replace HB := bbB hb; clear hb hbox hg) | ((with_reducible refine bZx 2 (h := ?_)); refine bxE #[.slice none 0 0, .int .i64 0, .slice none 0 0] 34 ?_; intro gb220 hg w5 hbox hb; have BK220 := Aside0.mk (hbox); have GE220 := szB hg; replace HB := bbB hb; have NB219_220 := nlB BK219 hg; have NB220_219 := ngB BK219 hg; replace BK219 := kbB BK219 hb; clear hb hbox hg) | ((with_reducible refine bZx 3 (h := ?_)); refine bxE #[.slice none 0 0, .int .i64 0, .slice none 0 0] 34 ?_; intro gb221 hg w6 hbox hb; have BK221 := Aside0.mk (hbox); have GE221 := szB hg; replace HB := bbB hb; have NB219_221 := nlB BK219 hg; have NB221_219 := ngB BK219 hg; replace BK219 := kbB BK219 hb; have NB220_221 := nlB BK220 hg; have NB221_220 := ngB BK220 hg; replace BK220 := kbB BK220 hb; clear hb hbox hg; have hnb7 := NB219_220.out; have hnc7 := NB220_219.out; have hnb8 := NB219_221.out; have hnc8 := NB221_219.out; obtain ⟨hcz9_0, hcz9_1, hcz9_2, hfz9_0, hfz9_1, hfz9_2⟩ := kZc3 BK219) | ((with_reducible refine gZc 54 (h := ?_)); refine gL 6 Try.func54 #[.slice A0_0 l0_0.length c0_0] ?_; (with_reducible refine (laws_toStepS.calls k _ _ l0_0 t222 _ ?side1 ?side2 A2.out).mono ?_); (case side1 => exact cZr (Kd.C_below HR0_0.out HB.out)); (case side2 => exact HC0_0.out); rintro e w10 ⟨v223, rfl, ho0, hb⟩; refine ⟨_, rfl, ?_⟩; have HO224 := rlB ho0; replace BK219 := kbB BK219 hb; replace BK220 := kbB BK220 hb; replace BK221 := kbB BK221 hb; replace HB := bbB hb; (try clear hb); (try clear ho0); obtain ⟨Ao11, co11, eo11⟩ := Kd.R_slice HO224.out; subst eo11; have hnb12 := NB221_220.out; have hnc12 := NB220_221.out; obtain ⟨hcz13_0, hcz13_1, hcz13_2, hfz13_0, hfz13_1, hfz13_2⟩ := kZc3 BK221; obtain ⟨hcz14_0, hcz14_1, hcz14_2, hfz14_0, hfz14_1, hfz14_2⟩ := kZc3 BK219) | ((with_reducible refine gZc 55 (h := ?_)); refine gL 13 Try.func55 #[.slice A0_2 l0_2.length c0_2] ?_; (with_reducible refine (laws_toIntS.calls k _ _ l0_2 t225 _ ?side1 ?side2 A3.out).mono ?_); (case side1 => exact Kd.C_below HR0_2.out BB); (case side2 => exact HC0_2.out); rintro e w15 ⟨v226, rfl, ho0, hb⟩; refine ⟨_, rfl, ?_⟩; replace HO224 := Aside0.mk (Kd.R_below (rZz HO224) hb); have HO227 := rlB ho0; replace BK219 := Aside0.mk (blk_below (g := gb219) (o := .cells #[.slice A0_0 l0_0.length c0_0, .int .i64 a0_1, .slice A0_2 l0_2.length c0_2] 25 (0, 0)) (kZq BK219) hb); replace BK220 := Aside0.mk (blk_below (g := gb220) (o := .cells #[.slice none 0 0, .int .i64 0, .slice none 0 0] 34 (0, 0)) (kZq BK220) hb); replace BK221 := Aside0.mk (blk_below (g := gb221) (o := .cells #[.slice Ao11 t222.length co11, .int .i64 a0_1, .slice none 0 0] 34 (0, 0)) (kZq BK221) hb); replace HB := bbB hb; (try clear hb); (try clear ho0); obtain ⟨Ao16, co16, eo16⟩ := Kd.R_slice HO227.out; subst eo16; obtain ⟨hcz17_0, hcz17_1, hcz17_2, hfz17_0, hfz17_1, hfz17_2⟩ := kZc3 BK221; obtain ⟨hcz18_0, hcz18_1, hcz18_2, hfz18_0, hfz18_1, hfz18_2⟩ := kZc3 BK220))
 refine bodyPost_ret (results_cell_row rfl _ _ gb220 34 #[.slice Ao11 t222.length co11, .int .i64 a0_1, .slice Ao16 t225.length co16] (0, 0) _ rfl (kZq BK220) Try.underlying34 rfl (by kernel_rfl)) rfl ?_
 exact ⟨_, _, EV, by (with_reducible repeat (first | apply Kd.R_alloc | apply Kd.R_drewN | apply Kd.R_drew)); exact Kd.R_mono (Kd.R_far (p := ⟨gb220, 2, none⟩) (Kd.R_far (p := ⟨gb220, 1, none⟩) (Kd.R_far (p := ⟨gb220, 0, none⟩) (Kd.R_far (p := ⟨gb221, 2, none⟩) (Kd.R_types (Kd.R_types HO224.out BK221.out (by decide)) BK220.out (by decide)) (fun _ hk => hk.1.2) (.slice Ao16 t225.length co16)) (fun _ hk => hk.2) (.slice Ao11 t222.length co11)) (fun _ hk => hk.2) (.int .i64 a0_1)) (fun _ hk => hk.2) (.slice Ao16 t225.length co16)) (fun _ hk => trivial), by (with_reducible repeat (first | apply Kd.R_alloc | apply Kd.R_drewN | apply Kd.R_drew)); exact Kd.R_mono (Kd.R_far (p := ⟨gb220, 2, none⟩) (Kd.R_far (p := ⟨gb220, 1, none⟩) (Kd.R_far (p := ⟨gb220, 0, none⟩) (Kd.R_far (p := ⟨gb221, 2, none⟩) (Kd.R_types (Kd.R_types HO227.out BK221.out (by decide)) BK220.out (by decide)) (fun _ hk => hk.1.2) (.slice Ao16 t225.length co16)) (fun _ hk => hk.2) (.slice Ao11 t222.length co11)) (fun _ hk => hk.2) (.int .i64 a0_1)) (fun _ hk => hk.2) (.slice Ao16 t225.length co16)) (fun _ hk => trivial), BB⟩
end Go.Proofs.Ytpbhoembdoofiaa.B
namespace Go.Proofs.Ytpbhoembdoofiaa.B
open Go.RowKit Go.Proofs.YtpbhoembdoofiaaW.PrintWords Go.Proofs.YtpbhoembdoofiaaW.PrintLast Go.Proofs.YtpbhoembdoofiaaW.PrintMore Go.Proofs.YtpbhoembdoofiaaW.Zc
set_option linter.unusedVariables false
set_option linter.unusedSimpArgs false
def laws_toShop.f (k : Nat) (l0_0 : List (S107)) (a0_1 : Int) (l0_2 : List Int) (a0_3 : Int) (a0_4 : Int) (l0_5 : List (S88)) : Option ((List (S100)) × Int × List Int × Int × Int × (List (S61))) := (laws_toWork.f k l0_0 a0_1 l0_2).bind fun bt248 => ((laws_toEntryS.f k l0_5).bind fun t255 => (some (bt248.1, bt248.2.1, bt248.2.2, a0_3, a0_4, t255)))
set_option maxHeartbeats 8000000 in
set_option maxRecDepth 100000 in
theorem laws_toShop.calls (k : Nat) (A0_0 : Option Addr) (c0_0 : Nat) (l0_0 : List (S107)) (a0_1 : Int) (A0_2 : Option Addr) (c0_2 : Nat) (l0_2 : List Int) (a0_3 : Int) (a0_4 : Int) (A0_5 : Option Addr) (c0_5 : Nat) (l0_5 : List (S88)) (r1 : List (S100)) (r2 : Int) (r3 : List Int) (r4 : Int) (r5 : Int) (r6 : List (S61)) (w : World) (hr0_0 : Kd.C k107 w A0_0 l0_0.length l0_0) (hc0_0 : l0_0.length ≤ c0_0) (hr0_2 : Kd.C (Kd.int .i64) w A0_2 l0_2.length l0_2) (hc0_2 : l0_2.length ≤ c0_2) (hr0_5 : Kd.C k88 w A0_5 l0_5.length l0_5) (hc0_5 : l0_5.length ≤ c0_5) (h : laws_toShop.f k l0_0 a0_1 l0_2 a0_3 a0_4 l0_5 = some (r1, r2, r3, r4, r5, r6)) :
    Calls Try.prog 7 #[.agg #[.slice A0_0 l0_0.length c0_0, .int .i64 a0_1, .slice A0_2 l0_2.length c0_2, .int .i64 a0_3, .int .i64 a0_4, .slice A0_5 l0_5.length c0_5]] w fun e w' => ∃ v0_ v2_ v5_ : Value, e = .returned (.agg #[v0_, .int .i64 r2, v2_, .int .i64 r4, .int .i64 r5, v5_]) ∧ Kd.R k100 100 w' w.heap.size (fun _ => True) v0_ r1 ∧ Kd.R (Kd.int .i64) 3 w' w.heap.size (fun _ => True) v2_ r3 ∧ Kd.R k61 61 w' w.heap.size (fun _ => True) v5_ r6 ∧ Below w.heap.size w w' := by
 have hu28 := Try.underlying28
 have hu37 := Try.underlying37
 have hu25 := Try.underlying25
 have hu34 := Try.underlying34
 have HR0_0 := Aside0.mk hr0_0
 have HC0_0 := Aside0.mk hc0_0
 clear hr0_0 hc0_0
 have HR0_2 := Aside0.mk hr0_2
 have HC0_2 := Aside0.mk hc0_2
 clear hr0_2 hc0_2
 have HR0_5 := Aside0.mk hr0_5
 have HC0_5 := Aside0.mk hc0_5
 clear hr0_5 hc0_5
 have HB := Aside0.mk (Below.refl w.heap.size w)
 have H : ((laws_toWork.f k l0_0 a0_1 l0_2).bind fun bt248 => ((laws_toEntryS.f k l0_5).bind fun t255 => (some (bt248.1, bt248.2.1, bt248.2.2, a0_3, a0_4, t255)))) = some (r1, r2, r3, r4, r5, r6) := h
 clear h
 obtain ⟨⟨t248, t251, t252⟩, A2, H⟩ := bsI H
 dsimp only at H
 obtain ⟨t255, A3, H⟩ := bsI H
 simp only [Option.some.injEq, Prod.mk.injEq] at H
 obtain ⟨rfl, rfl, rfl, rfl, rfl, rfl⟩ := H
 go_enter Try.func7, Try.ntmps7
 go_wp2_with (first | ((with_reducible refine bZx 1 (h := ?_)); refine bxE #[.slice A0_0 l0_0.length c0_0, .int .i64 a0_1, .slice A0_2 l0_2.length c0_2, .int .i64 a0_3, .int .i64 a0_4, .slice A0_5 l0_5.length c0_5] 28 ?_; intro gb245 hg w4 hbox hb; have BK245 := Aside0.mk (hbox); have GE245 := szB hg; replace HB := bbB hb; clear hb hbox hg) | ((with_reducible refine bZx 2 (h := ?_)); refine bxE #[.slice none 0 0, .int .i64 0, .slice none 0 0, .int .i64 0, .int .i64 0, .slice none 0 0] 37 ?_; intro gb246 hg w5 hbox hb; have BK246 := Aside0.mk (hbox); have GE246 := szB hg; replace HB := bbB hb; have NB245_246 := nlB BK245 hg; have NB246_245 := ngB BK245 hg; replace BK245 := kbB BK245 hb; clear hb hbox hg) | ((with_reducible refine bZx 3 (h := ?_)); refine bxE #[.slice none 0 0, .int .i64 0, .slice none 0 0, .int .i64 0, .int .i64 0, .slice none 0 0] 37 ?_; intro gb247 hg w6 hbox hb; have BK247 := Aside0.mk (hbox); have GE247 := szB hg; replace HB := bbB hb; have NB245_247 := nlB BK245 hg; have NB247_245 := ngB BK245 hg; replace BK245 := kbB BK245 hb; have NB246_247 := nlB BK246 hg; have NB247_246 := ngB BK246 hg; replace BK246 := kbB BK246 hb; clear hb hbox hg; have hnb7 := NB245_246.out; have hnc7 := NB246_245.out; have hnb8 := NB245_247.out; have hnc8 := NB247_245.out; obtain ⟨hcz9_0, hcz9_1, hcz9_2, hcz9_3, hcz9_4, hcz9_5, hfz9_0, hfz9_1, hfz9_2, hfz9_3, hfz9_4, hfz9_5⟩ := kZc6 BK245) | ((with_reducible refine gZc 27 (h := ?_)); refine gL 6 Try.func27 #[.agg #[.slice A0_0 l0_0.length c0_0, .int .i64 a0_1, .slice A0_2 l0_2.length c0_2]] ?_; (with_reducible refine (laws_toWork.calls k _ _ l0_0 a0_1 _ _ l0_2 t248 t251 t252 _ ?side1 ?side2 ?side3 ?side4 A2.out).mono ?_); (case side1 => exact cZr (Kd.C_below HR0_0.out HB.out)); (case side2 => exact HC0_0.out); (case side3 => exact cZr (Kd.C_below HR0_2.out HB.out)); (case side4 => exact HC0_2.out); rintro e w10 ⟨v249, v253, rfl, ho0, ho1, hb⟩; refine ⟨_, rfl, ?_⟩; have HO250 := rlB ho0; have HO254 := rlB ho1; replace BK245 := kbB BK245 hb; replace BK246 := kbB BK246 hb; replace BK247 := kbB BK247 hb; replace HB := bbB hb; (try clear hb); (try clear ho0); (try clear ho1); obtain ⟨Ao11, co11, eo11⟩ := Kd.R_slice HO250.out; subst eo11; have hnb12 := NB247_246.out; have hnc12 := NB246_247.out; obtain ⟨hcz13_0, hcz13_1, hcz13_2, hcz13_3, hcz13_4, hcz13_5, hfz13_0, hfz13_1, hfz13_2, hfz13_3, hfz13_4, hfz13_5⟩ := kZc6 BK247; obtain ⟨Ao14, co14, eo14⟩ := Kd.R_slice HO254.out; subst eo14; obtain ⟨hcz15_0, hcz15_1, hcz15_2, hcz15_3, hcz15_4, hcz15_5, hfz15_0, hfz15_1, hfz15_2, hfz15_3, hfz15_4, hfz15_5⟩ := kZc6 BK245) | ((with_reducible refine gZc 28 (h := ?_)); refine gL 16 Try.func28 #[.slice A0_5 l0_5.length c0_5] ?_; (with_reducible refine (laws_toEntryS.calls k _ _ l0_5 t255 _ ?side1 ?side2 A3.out).mono ?_); (case side1 => exact Kd.C_below HR0_5.out BB); (case side2 => exact HC0_5.out); rintro e w16 ⟨v256, rfl, ho0, hb⟩; refine ⟨_, rfl, ?_⟩; replace HO250 := Aside0.mk (Kd.R_below (rZz HO250) hb); replace HO254 := Aside0.mk (Kd.R_below (rZz HO254) hb); have HO257 := rlB ho0; replace BK245 := Aside0.mk (blk_below (g := gb245) (o := .cells #[.slice A0_0 l0_0.length c0_0, .int .i64 a0_1, .slice A0_2 l0_2.length c0_2, .int .i64 a0_3, .int .i64 a0_4, .slice A0_5 l0_5.length c0_5] 28 (0, 0)) (kZq BK245) hb); replace BK246 := Aside0.mk (blk_below (g := gb246) (o := .cells #[.slice none 0 0, .int .i64 0, .slice none 0 0, .int .i64 0, .int .i64 0, .slice none 0 0] 37 (0, 0)) (kZq BK246) hb); replace BK247 := Aside0.mk (blk_below (g := gb247) (o := .cells #[.slice Ao11 t248.length co11, .int .i64 t251, .slice Ao14 t252.length co14, .int .i64 a0_3, .int .i64 a0_4, .slice none 0 0] 37 (0, 0)) (kZq BK247) hb); replace HB := bbB hb; (try clear hb); (try clear ho0); obtain ⟨Ao17, co17, eo17⟩ := Kd.R_slice HO257.out; subst eo17; obtain ⟨hcz18_0, hcz18_1, hcz18_2, hcz18_3, hcz18_4, hcz18_5, hfz18_0, hfz18_1, hfz18_2, hfz18_3, hfz18_4, hfz18_5⟩ := kZc6 BK247; obtain ⟨hcz19_0, hcz19_1, hcz19_2, hcz19_3, hcz19_4, hcz19_5, hfz19_0, hfz19_1, hfz19_2, hfz19_3, hfz19_4, hfz19_5⟩ := kZc6 BK246))
 refine bodyPost_ret (results_cell_row rfl _ _ gb246 37 #[.slice Ao11 t248.length co11, .int .i64 t251, .slice Ao14 t252.length co14, .int .i64 a0_3, .int .i64 a0_4, .slice Ao17 t255.length co17] (0, 0) _ rfl (kZq BK246) Try.underlying37 rfl (by kernel_rfl)) rfl ?_
 exact ⟨_, _, _, EV, by (with_reducible repeat (first | apply Kd.R_alloc | apply Kd.R_drewN | apply Kd.R_drew)); exact Kd.R_mono (Kd.R_far (p := ⟨gb246, 5, none⟩) (Kd.R_far (p := ⟨gb246, 4, none⟩) (Kd.R_far (p := ⟨gb246, 3, none⟩) (Kd.R_far (p := ⟨gb246, 2, none⟩) (Kd.R_far (p := ⟨gb246, 1, none⟩) (Kd.R_far (p := ⟨gb246, 0, none⟩) (Kd.R_far (p := ⟨gb247, 5, none⟩) (Kd.R_types (Kd.R_types HO250.out BK247.out (by decide)) BK246.out (by decide)) (fun _ hk => hk.1.2) (.slice Ao17 t255.length co17)) (fun _ hk => hk.2) (.slice Ao11 t248.length co11)) (fun _ hk => hk.2) (.int .i64 t251)) (fun _ hk => hk.2) (.slice Ao14 t252.length co14)) (fun _ hk => hk.2) (.int .i64 a0_3)) (fun _ hk => hk.2) (.int .i64 a0_4)) (fun _ hk => hk.2) (.slice Ao17 t255.length co17)) (fun _ hk => trivial), by (with_reducible repeat (first | apply Kd.R_alloc | apply Kd.R_drewN | apply Kd.R_drew)); exact Kd.R_mono (Kd.R_far (p := ⟨gb246, 5, none⟩) (Kd.R_far (p := ⟨gb246, 4, none⟩) (Kd.R_far (p := ⟨gb246, 3, none⟩) (Kd.R_far (p := ⟨gb246, 2, none⟩) (Kd.R_far (p := ⟨gb246, 1, none⟩) (Kd.R_far (p := ⟨gb246, 0, none⟩) (Kd.R_far (p := ⟨gb247, 5, none⟩) (Kd.R_types (Kd.R_types HO254.out BK247.out (by decide)) BK246.out (by decide)) (fun _ hk => hk.1.2) (.slice Ao17 t255.length co17)) (fun _ hk => hk.2) (.slice Ao11 t248.length co11)) (fun _ hk => hk.2) (.int .i64 t251)) (fun _ hk => hk.2) (.slice Ao14 t252.length co14)) (fun _ hk => hk.2) (.int .i64 a0_3)) (fun _ hk => hk.2) (.int .i64 a0_4)) (fun _ hk => hk.2) (.slice Ao17 t255.length co17)) (fun _ hk => trivial), by (with_reducible repeat (first | apply Kd.R_alloc | apply Kd.R_drewN | apply Kd.R_drew)); exact Kd.R_mono (Kd.R_far (p := ⟨gb246, 5, none⟩) (Kd.R_far (p := ⟨gb246, 4, none⟩) (Kd.R_far (p := ⟨gb246, 3, none⟩) (Kd.R_far (p := ⟨gb246, 2, none⟩) (Kd.R_far (p := ⟨gb246, 1, none⟩) (Kd.R_far (p := ⟨gb246, 0, none⟩) (Kd.R_far (p := ⟨gb247, 5, none⟩) (Kd.R_types (Kd.R_types HO257.out BK247.out (by decide)) BK246.out (by decide)) (fun _ hk => hk.1.2) (.slice Ao17 t255.length co17)) (fun _ hk => hk.2) (.slice Ao11 t248.length co11)) (fun _ hk => hk.2) (.int .i64 t251)) (fun _ hk => hk.2) (.slice Ao14 t252.length co14)) (fun _ hk => hk.2) (.int .i64 a0_3)) (fun _ hk => hk.2) (.int .i64 a0_4)) (fun _ hk => hk.2) (.slice Ao17 t255.length co17)) (fun _ hk => trivial), BB⟩
end Go.Proofs.Ytpbhoembdoofiaa.B
namespace Go.Proofs.Ytpbhoembdoofiaa.B
open Go.RowKit Go.Proofs.YtpbhoembdoofiaaW.PrintWords Go.Proofs.YtpbhoembdoofiaaW.PrintLast Go.Proofs.YtpbhoembdoofiaaW.PrintMore Go.Proofs.YtpbhoembdoofiaaW.Zc
set_option linter.unusedVariables false
set_option linter.unusedSimpArgs false
def impl_within.f (a0 : Int) (a1 : Int) (a2 : Int) : Option (Bool) := if a1 ≤ a0 then (some (decide (a0 ≤ a2))) else (some false)
set_option maxHeartbeats 8000000 in
set_option maxRecDepth 100000 in
theorem impl_within.calls (a0 : Int) (a1 : Int) (a2 : Int) (r : Bool) (w : World) (h : impl_within.f a0 a1 a2 = some r) :
    Calls Try.prog 44 #[.int .i64 a0, .int .i64 a1, .int .i64 a2] w fun e w' => e = .returned (.bool r) ∧ Drawn0 w w' := by
 have H : (if a1 ≤ a0 then (some (decide (a0 ≤ a2))) else (some false)) = some r := h
 clear h
 by_cases c4 : a1 ≤ a0
 ·rw [if_pos c4] at H
  have c4b0 := decide_eq_true c4
  clear c4
  obtain rfl := Option.some.inj H
  go_enter Try.func44, Try.ntmps44
  go_wp2
  go_ret
  exact ⟨RF, DR⟩
 ·rw [if_neg c4] at H
  have c4b0 := decide_eq_false c4
  clear c4
  obtain rfl := Option.some.inj H
  go_enter Try.func44, Try.ntmps44
  go_wp2
  go_ret
  exact ⟨RF, DR⟩
end Go.Proofs.Ytpbhoembdoofiaa.B
namespace Go.Proofs.Ytpbhoembdoofiaa.B
open Go.RowKit Go.Proofs.YtpbhoembdoofiaaW.PrintWords Go.Proofs.YtpbhoembdoofiaaW.PrintLast Go.Proofs.YtpbhoembdoofiaaW.PrintMore Go.Proofs.YtpbhoembdoofiaaW.Zc
set_option linter.unusedVariables false
set_option linter.unusedSimpArgs false
def laws_szWork.f (l0_0 : List (S107)) (a0_1 : Int) (l0_2 : List Int) (a1 : Int) : Option (Int) := (laws_szStepS.f l0_0 a1).bind fun t102 => (if t102 < 0 then (some (-1)) else ((laws_szIntS.f l0_2 t102).bind fun t103 => (if t103 < 0 then (some (-1)) else (some t103))))
set_option maxHeartbeats 8000000 in
set_option maxRecDepth 100000 in
theorem laws_szWork.calls (A0_0 : Option Addr) (c0_0 : Nat) (l0_0 : List (S107)) (a0_1 : Int) (A0_2 : Option Addr) (c0_2 : Nat) (l0_2 : List Int) (a1 : Int) (r : Int) (w : World) (hr0_0 : Kd.C k107 w A0_0 l0_0.length l0_0) (hc0_0 : l0_0.length ≤ c0_0) (hr0_2 : Kd.C (Kd.int .i64) w A0_2 l0_2.length l0_2) (hc0_2 : l0_2.length ≤ c0_2) (h : laws_szWork.f l0_0 a0_1 l0_2 a1 = some r) :
    Calls Try.prog 22 #[.agg #[.slice A0_0 l0_0.length c0_0, .int .i64 a0_1, .slice A0_2 l0_2.length c0_2], .int .i64 a1] w fun e w' => e = .returned (.int .i64 r) ∧ Below w.heap.size w w' := by
 have hu25 := Try.underlying25
 have HR0_0 := Aside0.mk hr0_0
 have HC0_0 := Aside0.mk hc0_0
 clear hr0_0 hc0_0
 have HR0_2 := Aside0.mk hr0_2
 have HC0_2 := Aside0.mk hc0_2
 clear hr0_2 hc0_2
 have HB := Aside0.mk (Below.refl w.heap.size w)
 have H : ((laws_szStepS.f l0_0 a1).bind fun t102 => (if t102 < 0 then (some (-1)) else ((laws_szIntS.f l0_2 t102).bind fun t103 => (if t103 < 0 then (some (-1)) else (some t103))))) = some r := h
 clear h
 obtain ⟨t102, A3, H⟩ := bsI H
 by_cases c4 : t102 < 0
 ·rw [if_pos c4] at H
  have c4b0 := decide_eq_true c4
  clear c4
  obtain rfl := Option.some.inj H
  go_enter Try.func22, Try.ntmps22
  go_wp2_with (first | ((with_reducible refine bZx 2 (h := ?_)); refine bxE #[.slice A0_0 l0_0.length c0_0, .int .i64 a0_1, .slice A0_2 l0_2.length c0_2] 25 ?_; intro gb101 hg w5 hbox hb; have BK101 := Aside0.mk (hbox); have GE101 := szB hg; replace HB := bbB hb; clear hb hbox hg; obtain ⟨hcz6_0, hcz6_1, hcz6_2, hfz6_0, hfz6_1, hfz6_2⟩ := kZc3 BK101) | ((with_reducible refine gZc 47 (h := ?_)); refine gL 8 Try.func47 #[.slice A0_0 l0_0.length c0_0, .int .i64 a1] ?_; (with_reducible refine (laws_szStepS.calls _ _ l0_0 a1 t102 _ ?side1 ?side2 A3.out).mono ?_); (case side1 => exact cZr (Kd.C_below HR0_0.out HB.out)); (case side2 => exact HC0_0.out); rintro e w' ⟨rfl, ⟨nd, rfl⟩⟩; refine ⟨_, rfl, ?_⟩))
  go_ret
  exact ⟨EV, BB⟩
 ·rw [if_neg c4] at H
  have c4b0 := decide_eq_false c4
  clear c4
  obtain ⟨t103, A7, H⟩ := bsI H
  by_cases c8 : t103 < 0
  ·rw [if_pos c8] at H
   have c8b0 := decide_eq_true c8
   clear c8
   obtain rfl := Option.some.inj H
   go_enter Try.func22, Try.ntmps22
   go_wp2_with (first | ((with_reducible refine bZx 2 (h := ?_)); refine bxE #[.slice A0_0 l0_0.length c0_0, .int .i64 a0_1, .slice A0_2 l0_2.length c0_2] 25 ?_; intro gb101 hg w9 hbox hb; have BK101 := Aside0.mk (hbox); have GE101 := szB hg; replace HB := bbB hb; clear hb hbox hg; obtain ⟨hcz10_0, hcz10_1, hcz10_2, hfz10_0, hfz10_1, hfz10_2⟩ := kZc3 BK101) | ((with_reducible refine gZc 47 (h := ?_)); refine gL 8 Try.func47 #[.slice A0_0 l0_0.length c0_0, .int .i64 a1] ?_; (with_reducible refine (laws_szStepS.calls _ _ l0_0 a1 t102 _ ?side1 ?side2 A3.out).mono ?_); (case side1 => exact cZr (Kd.C_below HR0_0.out HB.out)); (case side2 => exact HC0_0.out); rintro e w' ⟨rfl, ⟨nd, rfl⟩⟩; refine ⟨_, rfl, ?_⟩) | ((with_reducible refine gZc 48 (h := ?_)); refine gL 14 Try.func48 #[.slice A0_2 l0_2.length c0_2, .int .i64 t102] ?_; (with_reducible refine (laws_szIntS.calls _ _ l0_2 t102 t103 _ ?side1 ?side2 A7.out).mono ?_); (case side1 => exact cZr (Kd.C_below HR0_2.out BB)); (case side2 => exact HC0_2.out); rintro e w' ⟨rfl, ⟨nd, rfl⟩⟩; refine ⟨_, rfl, ?_⟩))
   go_ret
   exact ⟨EV, BB⟩
  ·rw [if_neg c8] at H
   have c8b0 := decide_eq_false c8
   clear c8
   obtain rfl := Option.some.inj H
   go_enter Try.func22, Try.ntmps22
   go_wp2_with (first | ((with_reducible refine bZx 2 (h := ?_)); refine bxE #[.slice A0_0 l0_0.length c0_0, .int .i64 a0_1, .slice A0_2 l0_2.length c0_2] 25 ?_; intro gb101 hg w11 hbox hb; have BK101 := Aside0.mk (hbox); have GE101 := szB hg; replace HB := bbB hb; clear hb hbox hg; obtain ⟨hcz12_0, hcz12_1, hcz12_2, hfz12_0, hfz12_1, hfz12_2⟩ := kZc3 BK101) | ((with_reducible refine gZc 47 (h := ?_)); refine gL 8 Try.func47 #[.slice A0_0 l0_0.length c0_0, .int .i64 a1] ?_; (with_reducible refine (laws_szStepS.calls _ _ l0_0 a1 t102 _ ?side1 ?side2 A3.out).mono ?_); (case side1 => exact cZr (Kd.C_below HR0_0.out HB.out)); (case side2 => exact HC0_0.out); rintro e w' ⟨rfl, ⟨nd, rfl⟩⟩; refine ⟨_, rfl, ?_⟩) | ((with_reducible refine gZc 48 (h := ?_)); refine gL 14 Try.func48 #[.slice A0_2 l0_2.length c0_2, .int .i64 t102] ?_; (with_reducible refine (laws_szIntS.calls _ _ l0_2 t102 t103 _ ?side1 ?side2 A7.out).mono ?_); (case side1 => exact cZr (Kd.C_below HR0_2.out BB)); (case side2 => exact HC0_2.out); rintro e w' ⟨rfl, ⟨nd, rfl⟩⟩; refine ⟨_, rfl, ?_⟩))
   go_ret
   exact ⟨EV, BB⟩
end Go.Proofs.Ytpbhoembdoofiaa.B
namespace Go.Proofs.Ytpbhoembdoofiaa.B
open Go.RowKit Go.Proofs.YtpbhoembdoofiaaW.PrintWords Go.Proofs.YtpbhoembdoofiaaW.PrintLast Go.Proofs.YtpbhoembdoofiaaW.PrintMore Go.Proofs.YtpbhoembdoofiaaW.Zc
set_option linter.unusedVariables false
set_option linter.unusedSimpArgs false
theorem impl_PlanOk.w_any (x a b : Int) (w : World) : Calls Try.prog 44 #[.int .i64 x, .int .i64 a, .int .i64 b] w fun e w' => e = .returned (.bool (inB x a b)) ∧ Drawn0 w w' := by
  refine impl_within.calls x a b (inB x a b) w ?_
  unfold impl_within.f inB
  by_cases h : a ≤ x
  · rw [if_pos h, decide_eq_true h]; rfl
  · rw [if_neg h, decide_eq_false h]; rfl
theorem impl_PlanOk.w_is {x a b : Int} {r : Bool} (h : inB x a b = r) (w : World) : Calls Try.prog 44 #[.int .i64 x, .int .i64 a, .int .i64 b] w fun e w' => e = .returned (.bool r) ∧ ∃ m, w' = w.drewN m := by
  subst h
  exact (impl_PlanOk.w_any x a b _).mono fun _ _ ⟨h1, h2⟩ => ⟨h1, h2.out⟩
def impl_PlanOk.f (l0 : List Stp) : Option Bool := some (planB l0)
set_option maxHeartbeats 4000000 in
set_option maxRecDepth 100000 in
theorem impl_PlanOk.any (A0 : Option Addr) (c0 : Nat) (l0 : List (S100)) (w : World) (hr0 : Kd.C k100 w A0 l0.length l0) (hc0 : l0.length ≤ c0) :
    Calls Try.prog 74 #[.slice A0 l0.length c0] w fun e w' => e = .returned (.bool (planB l0)) ∧ Below w.heap.size w w' := by
  have hlen := hr0.2.1
  have HR := Aside0.mk hr0
  have hu100 := Try.underlying100
  have hu102 := Try.underlying102
  clear hr0
  by_cases h11 : 11 < l0.length
  · have d1 : decide ((11 : Int) < (l0.length : Int)) = true := decide_eq_true (by omega)
    have d2 : decide (11 < l0.length) = true := decide_eq_true h11
    go_enter Try.func74, Try.ntmps74
    go_wp2
    go_ret
    exact ⟨by unfold planB; rw [decide_eq_false (by omega), Bool.and_false]; rfl, Below.refl _ _⟩
  · have d1 : decide ((11 : Int) < (l0.length : Int)) = false := decide_eq_false (by omega)
    have d2 : decide (11 < l0.length) = false := decide_eq_false h11
    go_enter Try.func74, Try.ntmps74
    go_wp2
    go_loopw [12] (fun i w' => ∃ (k : Nat) (t : List Bool), k ≤ l0.length ∧ i = .int .i64 k ∧ Aside0 (t.length = 12) ∧ Aside0 (planGo t (l0.drop k) = planGo tun0 l0) ∧ Aside0 (w'.heap[w.heap.size]? = some (.cells (bv t) 102 (0, 0))) ∧ Aside0 (Below w.heap.size w w')) (fun i _ => l0.length - (intOf i).toNat)
    case atStart => exact ⟨0, tun0, Nat.zero_le _, rfl, ⟨rfl⟩, ⟨rfl⟩, ⟨by exact blk_new _ _⟩, ⟨below_alloc (Below.refl _ _) _⟩⟩
    case round =>
      obtain ⟨k, t, hk, rfl, HT, HP, BK, HB⟩ := hrel
      by_cases hlt : k < l0.length
      · obtain ⟨ad, rfl, x0, x1, x2, x3⟩ := at_T100 HR.out k (by omega) (by omega)
        replace x0 := pw_cell_below HB.out x0
        replace x1 := pw_cell_below HB.out x1
        replace x2 := pw_cell_below HB.out x2
        replace x3 := pw_cell_below HB.out x3
        have hxd : (rd_T100 l0 (k : Int)) = l0.getD k z100 := by unfold rd_T100; simp only [Int.toNat_natCast]
        rw [hxd] at x0 x1 x2 x3
        clear hxd
        obtain ⟨e, HE⟩ : ∃ e, Aside0 (e = l0.getD k z100) := ⟨_, ⟨rfl⟩⟩
        rw [← HE.out] at x0 x1 x2 x3
        simp only [Int.toNat_natCast] at x0 x1 x2 x3
        have gz : w.heap.size < wr.heap.size := blk_lt BK.out
        have GE := Aside0.mk (Nat.le_refl w.heap.size)
        have HQ := Aside0.mk (planGo_at (t := t) hlt)
        by_cases k3 : e.f2 = 1 ∨ e.f2 = 2
        · have HK : Aside0 ((e.f2 == 1 || e.f2 == 2) = true) := ⟨by rcases k3 with h | h <;> simp [h]⟩
          have HKK : ((e.f2 != 1) = true ∧ (e.f2 != 2) = false) ∨ (e.f2 != 1) = false := by rcases k3 with h | h <;> simp [h]
          clear k3
          by_cases b2 : inB e.f3 0 5000 = true
          · by_cases b3 : inB e.f0 0 11 = true
            · obtain ⟨i3a, i3b⟩ := inB_t b3
              by_cases b4 : inB e.f1 0 11 = true
              · obtain ⟨i4a, i4b⟩ := inB_t b4
                have y0 := bv_cell BK.out e.f0.toNat (by have := HT.out; omega)
                have y1 := bv_cell BK.out e.f1.toNat (by have := HT.out; omega)
                have z1 := blk_frozen BK.out e.f1.toNat
                by_cases b5 : e.f1 = (e.f0 + 1) % 12
                · have b5' : (e.f1 != (e.f0 + 1) % 12) = false := by simp [b5]
                  have H5 := Aside0.mk b5
                  clear b5
                  cases b6 : t.getD e.f0.toNat false
                  · rw [b6] at y0
                    rcases HKK with ⟨k1, k2⟩ | k1 <;>
                     (go_wp2_with (first | (go_at_call_of 44 (Value.int .i64 e.f3); refine (impl_PlanOk.w_is b2 _).mono ?_; rintro _ _ ⟨rfl, ⟨nq, rfl⟩⟩) | (go_at_call_of 44 (Value.int .i64 e.f0); refine (impl_PlanOk.w_is b3 _).mono ?_; rintro _ _ ⟨rfl, ⟨nq, rfl⟩⟩) | (go_at_call_of 44 (Value.int .i64 e.f1); refine (impl_PlanOk.w_is b4 _).mono ?_; rintro _ _ ⟨rfl, ⟨nq, rfl⟩⟩))
                      go_ret
                      exact ⟨by rw [planB_no HP.out HQ.out HE.out (by simp only [stpB, b6, Bool.and_false, Bool.false_and, Bool.not_true])]; rfl, BB⟩)
                  · rw [b6] at y0
                    cases b7 : t.getD e.f1.toNat false
                    · rw [b7] at y1
                      have HS := Aside0.mk (show stpB t e = true by simp only [stpB, HK.out, b2, b3, b4, beqT H5.out, b6, b7, Bool.and_true, Bool.true_and, Bool.not_false])
                      rcases HKK with ⟨k1, k2⟩ | k1 <;>
                       (go_wp2_with (first | (go_at_call_of 44 (Value.int .i64 e.f3); refine (impl_PlanOk.w_is b2 _).mono ?_; rintro _ _ ⟨rfl, ⟨nq, rfl⟩⟩) | (go_at_call_of 44 (Value.int .i64 e.f0); refine (impl_PlanOk.w_is b3 _).mono ?_; rintro _ _ ⟨rfl, ⟨nq, rfl⟩⟩) | (go_at_call_of 44 (Value.int .i64 e.f1); refine (impl_PlanOk.w_is b4 _).mono ?_; rintro _ _ ⟨rfl, ⟨nq, rfl⟩⟩))
                        go_roundw
                        case rel => exact ⟨k + 1, t.set e.f1.toNat true, by omega, by go_num, ⟨by rw [List.length_set]; exact HT.out⟩, ⟨by rw [← HP.out, HQ.out, ← HE.out, HS.out, Bool.true_and]⟩, ⟨bv_set (kZb BK) _⟩, ⟨BB⟩⟩
                        case measure => simp [intOf]; omega)
                    · rw [b7] at y1
                      rcases HKK with ⟨k1, k2⟩ | k1 <;>
                       (go_wp2_with (first | (go_at_call_of 44 (Value.int .i64 e.f3); refine (impl_PlanOk.w_is b2 _).mono ?_; rintro _ _ ⟨rfl, ⟨nq, rfl⟩⟩) | (go_at_call_of 44 (Value.int .i64 e.f0); refine (impl_PlanOk.w_is b3 _).mono ?_; rintro _ _ ⟨rfl, ⟨nq, rfl⟩⟩) | (go_at_call_of 44 (Value.int .i64 e.f1); refine (impl_PlanOk.w_is b4 _).mono ?_; rintro _ _ ⟨rfl, ⟨nq, rfl⟩⟩))
                        go_ret
                        exact ⟨by rw [planB_no HP.out HQ.out HE.out (by simp only [stpB, b7, Bool.and_false, Bool.false_and, Bool.not_true])]; rfl, BB⟩)
                · have b5' : (e.f1 != (e.f0 + 1) % 12) = true := by simp [b5]
                  have H5 := Aside0.mk b5
                  clear b5
                  rcases HKK with ⟨k1, k2⟩ | k1 <;>
                   (go_wp2_with (first | (go_at_call_of 44 (Value.int .i64 e.f3); refine (impl_PlanOk.w_is b2 _).mono ?_; rintro _ _ ⟨rfl, ⟨nq, rfl⟩⟩) | (go_at_call_of 44 (Value.int .i64 e.f0); refine (impl_PlanOk.w_is b3 _).mono ?_; rintro _ _ ⟨rfl, ⟨nq, rfl⟩⟩) | (go_at_call_of 44 (Value.int .i64 e.f1); refine (impl_PlanOk.w_is b4 _).mono ?_; rintro _ _ ⟨rfl, ⟨nq, rfl⟩⟩))
                    go_ret
                    exact ⟨by rw [planB_no HP.out HQ.out HE.out (by simp only [stpB, beqF H5.out, Bool.and_false, Bool.false_and, Bool.not_true])]; rfl, BB⟩)
              · replace b4 := Bool.eq_false_iff.mpr b4
                rcases HKK with ⟨k1, k2⟩ | k1 <;>
                 (go_wp2_with (first | (go_at_call_of 44 (Value.int .i64 e.f3); refine (impl_PlanOk.w_is b2 _).mono ?_; rintro _ _ ⟨rfl, ⟨nq, rfl⟩⟩) | (go_at_call_of 44 (Value.int .i64 e.f0); refine (impl_PlanOk.w_is b3 _).mono ?_; rintro _ _ ⟨rfl, ⟨nq, rfl⟩⟩) | (go_at_call_of 44 (Value.int .i64 e.f1); refine (impl_PlanOk.w_is b4 _).mono ?_; rintro _ _ ⟨rfl, ⟨nq, rfl⟩⟩))
                  go_ret
                  exact ⟨by rw [planB_no HP.out HQ.out HE.out (by simp only [stpB, b4, Bool.and_false, Bool.false_and, Bool.not_true])]; rfl, BB⟩)
            · replace b3 := Bool.eq_false_iff.mpr b3
              rcases HKK with ⟨k1, k2⟩ | k1 <;>
               (go_wp2_with (first | (go_at_call_of 44 (Value.int .i64 e.f3); refine (impl_PlanOk.w_is b2 _).mono ?_; rintro _ _ ⟨rfl, ⟨nq, rfl⟩⟩) | (go_at_call_of 44 (Value.int .i64 e.f0); refine (impl_PlanOk.w_is b3 _).mono ?_; rintro _ _ ⟨rfl, ⟨nq, rfl⟩⟩) | (go_at_call_of 44 (Value.int .i64 e.f1); refine (impl_PlanOk.w_is b4 _).mono ?_; rintro _ _ ⟨rfl, ⟨nq, rfl⟩⟩))
                go_ret
                exact ⟨by rw [planB_no HP.out HQ.out HE.out (by simp only [stpB, b3, Bool.and_false, Bool.false_and, Bool.not_true])]; rfl, BB⟩)
          · replace b2 := Bool.eq_false_iff.mpr b2
            rcases HKK with ⟨k1, k2⟩ | k1 <;>
             (go_wp2_with (first | (go_at_call_of 44 (Value.int .i64 e.f3); refine (impl_PlanOk.w_is b2 _).mono ?_; rintro _ _ ⟨rfl, ⟨nq, rfl⟩⟩) | (go_at_call_of 44 (Value.int .i64 e.f0); refine (impl_PlanOk.w_is b3 _).mono ?_; rintro _ _ ⟨rfl, ⟨nq, rfl⟩⟩) | (go_at_call_of 44 (Value.int .i64 e.f1); refine (impl_PlanOk.w_is b4 _).mono ?_; rintro _ _ ⟨rfl, ⟨nq, rfl⟩⟩))
              go_ret
              exact ⟨by rw [planB_no HP.out HQ.out HE.out (by simp only [stpB, b2, Bool.and_false, Bool.false_and, Bool.not_true])]; rfl, BB⟩)
        · have k1 : (e.f2 != 1) = true := by simp; omega
          have k2 : (e.f2 != 2) = true := by simp; omega
          have HK : Aside0 ((e.f2 == 1 || e.f2 == 2) = false) := ⟨by simp; omega⟩
          clear k3
          go_wp2
          go_ret
          exact ⟨by rw [planB_no HP.out HQ.out HE.out (by simp only [stpB, HK.out, Bool.and_false, Bool.false_and, Bool.not_true])]; rfl, BB⟩
      · have hz : k = l0.length := by omega
        have HZ := Aside0.mk hz
        clear hz
        go_wp2
        go_ret
        refine ⟨?_, HB.out⟩
        have h1 := HP.out
        rw [HZ.out, List.drop_length] at h1
        unfold planB
        rw [← h1, decide_eq_true (show l0.length ≤ 11 by omega)]
        rfl
theorem impl_PlanOk.calls (A0 : Option Addr) (c0 : Nat) (l0 : List (S100)) (r : Bool) (w : World) (hr0 : Kd.C k100 w A0 l0.length l0) (hc0 : l0.length ≤ c0) (h : impl_PlanOk.f l0 = some r) :
    Calls Try.prog 74 #[.slice A0 l0.length c0] w fun e w' => e = .returned (.bool r) ∧ Below w.heap.size w w' := by
  cases h
  exact impl_PlanOk.any A0 c0 l0 w hr0 hc0
end Go.Proofs.Ytpbhoembdoofiaa.B
namespace Go.Proofs.Ytpbhoembdoofiaa.B
open Go.RowKit Go.Proofs.YtpbhoembdoofiaaW.PrintWords Go.Proofs.YtpbhoembdoofiaaW.PrintLast Go.Proofs.YtpbhoembdoofiaaW.PrintMore Go.Proofs.YtpbhoembdoofiaaW.Zc
set_option linter.unusedVariables false
set_option linter.unusedSimpArgs false
def impl_isFine.f (a0 : Int) : Option (Bool) := (impl_within.f a0 1 10000000).bind fun t258 => (some t258)
set_option maxHeartbeats 8000000 in
set_option maxRecDepth 100000 in
theorem impl_isFine.calls (a0 : Int) (r : Bool) (w : World) (h : impl_isFine.f a0 = some r) :
    Calls Try.prog 75 #[.int .i64 a0] w fun e w' => e = .returned (.bool r) ∧ Drawn0 w w' := by
 have H : ((impl_within.f a0 1 10000000).bind fun t258 => (some t258)) = some r := h
 clear h
 obtain ⟨t258, A2, H⟩ := bsI H
 obtain rfl := Option.some.inj H
 go_enter Try.func75, Try.ntmps75
 go_wp2_with (first | ((with_reducible refine gZc 44 (h := ?_)); refine gL 4 Try.func44 #[.int .i64 a0, .int .i64 1, .int .i64 10000000] ?_; (with_reducible refine (impl_within.calls a0 1 10000000 t258 _ A2.out).mono ?_); rintro e w' ⟨rfl, ⟨nd, rfl⟩⟩; refine ⟨_, rfl, ?_⟩))
 go_ret
 exact ⟨RF, DR⟩
end Go.Proofs.Ytpbhoembdoofiaa.B
namespace Go.Proofs.Ytpbhoembdoofiaa.B
open Go.RowKit Go.Proofs.YtpbhoembdoofiaaW.PrintWords Go.Proofs.YtpbhoembdoofiaaW.PrintLast Go.Proofs.YtpbhoembdoofiaaW.PrintMore Go.Proofs.YtpbhoembdoofiaaW.Zc
set_option linter.unusedVariables false
set_option linter.unusedSimpArgs false
theorem impl_WorkOk.w_any (x a b : Int) (w : World) : Calls Try.prog 44 #[.int .i64 x, .int .i64 a, .int .i64 b] w fun e w' => e = .returned (.bool (inB x a b)) ∧ Drawn0 w w' := by
  refine impl_within.calls x a b (inB x a b) w ?_
  unfold impl_within.f inB
  by_cases h : a ≤ x
  · rw [if_pos h, decide_eq_true h]; rfl
  · rw [if_neg h, decide_eq_false h]; rfl
theorem impl_WorkOk.w_is {x a b : Int} {r : Bool} (h : inB x a b = r) (w : World) : Calls Try.prog 44 #[.int .i64 x, .int .i64 a, .int .i64 b] w fun e w' => e = .returned (.bool r) ∧ ∃ m, w' = w.drewN m := by
  subst h
  exact (impl_WorkOk.w_any x a b _).mono fun _ _ ⟨h1, h2⟩ => ⟨h1, h2.out⟩
theorem impl_WorkOk.w_b {x a b : Int} {r : Bool} (h : inB x a b = r) (w : World) : Calls Try.prog 44 #[.int .i64 x, .int .i64 a, .int .i64 b] w fun e w' => e = .returned (.bool r) ∧ Below w.heap.size w w' := by
  subst h
  exact (impl_WorkOk.w_any x a b _).mono fun _ _ ⟨h1, h2⟩ => ⟨h1, h2.below⟩
theorem impl_WorkOk.fine {p : Int} {r : Bool} (h : inB p 1 10000000 = r) (w : World) : Calls Try.prog 75 #[.int .i64 p] w fun e w' => e = .returned (.bool r) ∧ ∃ m, w' = w.drewN m := by
  refine (impl_isFine.calls p r w ?_).mono fun _ _ ⟨h1, h2⟩ => ⟨h1, h2.out⟩
  subst h
  unfold impl_isFine.f impl_within.f inB
  by_cases h : 1 ≤ p
  · rw [if_pos h, decide_eq_true h]; rfl
  · rw [if_neg h, decide_eq_false h]; rfl
theorem impl_WorkOk.plan {A0 : Option Addr} {c0 : Nat} {l0 : List Stp} {r : Bool} (h : planB l0 = r) (w : World) (hr0 : Kd.C k100 w A0 l0.length l0) (hc0 : l0.length ≤ c0) : Calls Try.prog 74 #[.slice A0 l0.length c0] w fun e w' => e = .returned (.bool r) ∧ Below w.heap.size w w' := impl_PlanOk.calls A0 c0 l0 r w hr0 hc0 (by unfold impl_PlanOk.f; rw [h])
def impl_WorkOk.f (l0_0 : List Stp) (a0_1 : Int) (l0_2 : List Int) : Option Bool := some (workB l0_0 a0_1 l0_2)
set_option maxHeartbeats 4000000 in
set_option maxRecDepth 100000 in
theorem impl_WorkOk.any (A0 : Option Addr) (c0 : Nat) (pl : List Stp) (d : Int) (A2 : Option Addr) (c2 : Nat) (pt : List Int) (w : World) (hr0 : Kd.C k100 w A0 pl.length pl) (hc0 : pl.length ≤ c0) (hr2 : Kd.C (Kd.int .i64) w A2 pt.length pt) (hc2 : pt.length ≤ c2) :
    Calls Try.prog 41 #[.agg #[.slice A0 pl.length c0, .int .i64 d, .slice A2 pt.length c2]] w fun e w' => e = .returned (.bool (workB pl d pt)) ∧ Below w.heap.size w w' := by
  have hl0 := hr0.2.1
  have hl2 := hr2.2.1
  have HR0 := Aside0.mk hr0
  have HR2 := Aside0.mk hr2
  have HB := Aside0.mk (Below.refl w.heap.size w)
  have hu1 := Try.underlying34
  have hu2 := Try.underlying102
  have hu3 := Try.underlying100
  clear hr0 hr2
  cases b1 : planB pl
  · go_enter Try.func41, Try.ntmps41
    go_wp2_with (go_at_call 74; refine (impl_WorkOk.plan b1 _ (cZr HR0.out) hc0).mono ?_; rintro _ w1 ⟨rfl, hb1⟩)
    go_ret
    exact ⟨by simp only [workB, b1, Bool.false_and]; rfl, below_step BB hb1⟩
  · cases b2 : inB d 0 pl.length
    · go_enter Try.func41, Try.ntmps41
      go_wp2_with (first | (go_at_call 74; refine (impl_WorkOk.plan b1 _ (cZr HR0.out) hc0).mono ?_; rintro _ w1 ⟨rfl, hb1⟩; obtain ⟨F1, G1⟩ := bcell hb1; have L1 := lt_below hb1) | (go_at_call 44; refine (impl_WorkOk.w_is b2 _).mono ?_; rintro _ _ ⟨rfl, ⟨nq, rfl⟩⟩))
      go_ret
      exact ⟨by simp only [workB, b1, b2, Bool.true_and, Bool.false_and]; rfl, pw_below_drewN (below_step BB hb1) _⟩
    · obtain ⟨i2a, i2b⟩ := inB_t b2
      by_cases b3 : pt.length = 12
      · have b3' : ((pt.length : Int) != 12) = false := by simp; omega
        have HN := Aside0.mk b3
        clear b3
        obtain ⟨D, rfl⟩ : ∃ D : Nat, d = D := ⟨d.toNat, by omega⟩
        have i2c : D ≤ pl.length := by omega
        go_enter Try.func41, Try.ntmps41
        go_wp2_with (first | (go_at_call 74; refine (impl_WorkOk.plan b1 _ (cZr HR0.out) hc0).mono ?_; rintro _ w1 ⟨rfl, hb1⟩; obtain ⟨F1, G1⟩ := bcell hb1; have L1 := lt_below hb1) | (go_at_call 44; refine (impl_WorkOk.w_b b2 _).mono ?_; rintro _ w2 ⟨rfl, hb2⟩; obtain ⟨F2, G2⟩ := bcell hb2; have L2 := hb2.size; have L3 := Nat.lt_of_lt_of_le L1 L2))
        have HL3 := Aside0.mk L3
        have HL4 := Aside0.mk (Nat.le_of_lt L3)
        have HB2 := Aside0.mk (show Below w.heap.size w w2 from below_step (below_step BB hb1) hb2)
        have KW := Aside0.mk (show w2.heap[w.heap.size]? = some (.cells #[Value.slice A0 pl.length c0, Value.int IntKind.i64 (D : Int), Value.slice A2 pt.length c2] 34 (0, 0)) from (hb2.block _ (by omega)).trans ((hb1.block _ (by rw [World.size_alloc]; omega)).trans (blk_new _ _)))
        clear F1 G1 F2 G2 hb1 hb2 L2
        go_loopw [34] (fun i w' => ∃ (k : Nat) (t : List Bool), k ≤ D ∧ i = .int .i64 k ∧ Aside0 (t.length = 12) ∧ Aside0 (tunL t ((pl.take D).drop k) = tunL tun0 (pl.take D)) ∧ Aside0 (w'.heap[w2.heap.size]? = some (.cells (bv t) 102 (0, 0))) ∧ Aside0 (w'.heap[w.heap.size]? = some (.cells #[Value.slice A0 pl.length c0, Value.int IntKind.i64 (D : Int), Value.slice A2 pt.length c2] 34 (0, 0))) ∧ Aside0 (Below w.heap.size w w')) (fun i _ => D - (intOf i).toNat)
        case atStart => exact ⟨0, tun0, Nat.zero_le _, rfl, ⟨rfl⟩, ⟨rfl⟩, ⟨by exact blk_new _ _⟩, ⟨blk_alloc KW.out _⟩, ⟨below_alloc HB2.out _⟩⟩
        case round =>
          obtain ⟨k, t, hk, rfl, HT, HP, BK, KV, HB⟩ := hrel
          by_cases hlt : k < D
          · have hlt2 : k < pl.length := by omega
            obtain ⟨ad, rfl, x0, x1, x2, x3⟩ := at_T100 HR0.out k (by omega) (by omega)
            replace x0 := pw_cell_below HB.out x0
            replace x1 := pw_cell_below HB.out x1
            replace x2 := pw_cell_below HB.out x2
            replace x3 := pw_cell_below HB.out x3
            have hxd : (rd_T100 pl (k : Int)) = pl.getD k z100 := by unfold rd_T100; simp only [Int.toNat_natCast]
            rw [hxd] at x0 x1 x2 x3
            clear hxd
            obtain ⟨i4a, i4b⟩ := planB_to b1 k hlt2
            obtain ⟨e, HE⟩ : ∃ e, Aside0 (e = pl.getD k z100) := ⟨_, ⟨rfl⟩⟩
            rw [← HE.out] at x0 x1 x2 x3 i4a i4b
            simp only [Int.toNat_natCast] at x0 x1 x2 x3
            have gz : w2.heap.size < wr.heap.size := blk_lt BK.out
            have gy : w.heap.size < wr.heap.size := by have := HL3.out; omega
            have GE := Aside0.mk (Nat.le_refl w.heap.size)
            have y1 := bv_cell BK.out e.f1.toNat (by have := HT.out; omega)
            have z1 := blk_frozen BK.out e.f1.toNat
            have HQ := Aside0.mk (show tunL t ((pl.take D).drop k) = tunL (t.set e.f1.toNat true) ((pl.take D).drop (k + 1)) by rw [tunL_at (by rw [List.length_take]; omega), HE.out]; simp only [List.getD_eq_getElem?_getD, List.getElem?_take, if_pos hlt])
            go_wp2
            go_roundw
            case rel => exact ⟨k + 1, t.set e.f1.toNat true, by omega, by go_num, ⟨by rw [List.length_set]; exact HT.out⟩, ⟨by rw [← HP.out, HQ.out]⟩, ⟨blk_alloc (bv_set BK.out _) _⟩, ⟨blk_alloc (blk_far KV.out (Nat.ne_of_lt HL3.out) _) _⟩, ⟨BB⟩⟩
            case measure => simp [intOf]; omega
          · have hz : k = D := by omega
            have HZ := Aside0.mk hz
            clear hz
            obtain ⟨a0, a1, a2, f0, f1, f2⟩ := kZc3 KV
            go_wp2
            have HM := Aside0.mk (show tunL tun0 (pl.take D) = t by rw [← HP.out, HZ.out, List.drop_eq_nil_of_le (by rw [List.length_take]; omega)]; rfl)
            have HWB := Aside0.mk (show workB pl D pt = pitsGo t pt 12 0 by simp only [workB, b1, b2, HN.out, Int.toNat_natCast, HM.out, pitsB, Bool.true_and, beq_self_eq_true])
            clear a0 a1 a2 f0 f1 f2
            go_loopw [45] (fun i w' => ∃ (k : Nat), k ≤ 12 ∧ i = .int .i64 k ∧ Aside0 (pitsGo t pt (12 - k) k = pitsGo t pt 12 0) ∧ Aside0 (w'.heap[w2.heap.size]? = some (.cells (bv t) 102 (0, 0))) ∧ Aside0 (Below w.heap.size w w')) (fun i _ => 12 - (intOf i).toNat)
            case atStart => exact ⟨0, by omega, rfl, ⟨rfl⟩, ⟨BK.out⟩, ⟨HB.out⟩⟩
            case round =>
              obtain ⟨k, hk, rfl, HP2, BK, HB⟩ := hrel
              by_cases hlt : k < 12
              · have hlt2 : k < pt.length := by have := HN.out; omega
                obtain ⟨ad, rfl, x0⟩ := Kd.at_int HR2.out k (by omega) (by omega)
                replace x0 := pw_cell_below HB.out x0
                have hxd : (rd pt (k : Int)) = pt.getD k 0 := by unfold rd; simp only [Int.toNat_natCast]
                rw [hxd] at x0
                clear hxd
                simp only [Int.toNat_natCast] at x0
                obtain ⟨p, HE⟩ : ∃ p, Aside0 (p = pt.getD k 0) := ⟨_, ⟨rfl⟩⟩
                rw [← HE.out] at x0
                have y1 := bv_cell BK.out k (by have := HT.out; omega)
                have HQ := Aside0.mk (show pitsGo t pt (12 - k) k = (pitB (t.getD k false) p && pitsGo t pt (12 - (k + 1)) (k + 1)) by obtain ⟨m, hm⟩ : ∃ m, 12 - k = m + 1 := ⟨11 - k, by omega⟩; rw [hm, pitsGo, HE.out, show 12 - (k + 1) = m by omega])
                cases b5 : t.getD k false
                · rw [b5] at y1
                  by_cases b6 : p = 0
                  · have b6' : (p != 0) = false := by simp [b6]
                    have H6 := Aside0.mk b6
                    clear b6
                    go_wp2
                    go_roundw
                    case rel => exact ⟨k + 1, by omega, by go_num, ⟨by rw [← HP2.out, HQ.out, b5, pitB, beqT H6.out]; simp⟩, ⟨kZb BK⟩, ⟨BB⟩⟩
                    case measure => simp [intOf]; omega
                  · have b6' : (p != 0) = true := by simp [b6]
                    have H6 := Aside0.mk b6
                    clear b6
                    go_wp2
                    go_ret
                    exact ⟨by rw [HWB.out, ← HP2.out, HQ.out, b5, pitB, beqF H6.out]; simp, BB⟩
                · rw [b5] at y1
                  cases b6 : inB p 1 10000000
                  · go_wp2_with (first | (go_at_call 75; refine (impl_WorkOk.fine b6 _).mono ?_; rintro _ _ ⟨rfl, ⟨nq, rfl⟩⟩))
                    go_ret
                    exact ⟨by rw [HWB.out, ← HP2.out, HQ.out, b5, pitB, b6]; simp, BB⟩
                  · go_wp2_with (first | (go_at_call 75; refine (impl_WorkOk.fine b6 _).mono ?_; rintro _ _ ⟨rfl, ⟨nq, rfl⟩⟩))
                    go_roundw
                    case rel => exact ⟨k + 1, by omega, by go_num, ⟨by rw [← HP2.out, HQ.out, b5, pitB, b6]; simp⟩, ⟨kZb BK⟩, ⟨BB⟩⟩
                    case measure => simp [intOf]; omega
              · have hz : k = 12 := by omega
                have hlt3 : ¬ k < pt.length := by have := HN.out; omega
                have HZ := Aside0.mk hz
                clear hz
                go_wp2
                go_ret
                refine ⟨?_, HB.out⟩
                have h1 := HP2.out
                rw [HZ.out] at h1
                rw [HWB.out, ← h1]
                rfl
      · have b3' : ((pt.length : Int) != 12) = true := by simp; omega
        have HN := Aside0.mk b3
        clear b3
        go_enter Try.func41, Try.ntmps41
        go_wp2_with (first | (go_at_call 74; refine (impl_WorkOk.plan b1 _ (cZr HR0.out) hc0).mono ?_; rintro _ w1 ⟨rfl, hb1⟩; obtain ⟨F1, G1⟩ := bcell hb1; have L1 := lt_below hb1) | (go_at_call 44; refine (impl_WorkOk.w_is b2 _).mono ?_; rintro _ _ ⟨rfl, ⟨nq, rfl⟩⟩))
        go_ret
        exact ⟨by simp only [workB, b1, b2, Bool.true_and, beq_false_of_ne HN.out, Bool.false_and]; rfl, pw_below_drewN (below_step BB hb1) _⟩
theorem impl_WorkOk.calls (A0_0 : Option Addr) (c0_0 : Nat) (l0_0 : List (S100)) (a0_1 : Int) (A0_2 : Option Addr) (c0_2 : Nat) (l0_2 : List Int) (r : Bool) (w : World) (hr0_0 : Kd.C k100 w A0_0 l0_0.length l0_0) (hc0_0 : l0_0.length ≤ c0_0) (hr0_2 : Kd.C (Kd.int .i64) w A0_2 l0_2.length l0_2) (hc0_2 : l0_2.length ≤ c0_2) (h : impl_WorkOk.f l0_0 a0_1 l0_2 = some r) :
    Calls Try.prog 41 #[.agg #[.slice A0_0 l0_0.length c0_0, .int .i64 a0_1, .slice A0_2 l0_2.length c0_2]] w fun e w' => e = .returned (.bool r) ∧ Below w.heap.size w w' := by
  cases h
  exact impl_WorkOk.any A0_0 c0_0 l0_0 a0_1 A0_2 c0_2 l0_2 w hr0_0 hc0_0 hr0_2 hc0_2
end Go.Proofs.Ytpbhoembdoofiaa.B
namespace Go.Proofs.Ytpbhoembdoofiaa.B
open Go.RowKit Go.Proofs.YtpbhoembdoofiaaW.PrintWords Go.Proofs.YtpbhoembdoofiaaW.PrintLast Go.Proofs.YtpbhoembdoofiaaW.PrintMore Go.Proofs.YtpbhoembdoofiaaW.Zc
set_option linter.unusedVariables false
set_option linter.unusedSimpArgs false
theorem impl_LogOk.w_any (x a b : Int) (w : World) : Calls Try.prog 44 #[.int .i64 x, .int .i64 a, .int .i64 b] w fun e w' => e = .returned (.bool (inB x a b)) ∧ Drawn0 w w' := by
  refine impl_within.calls x a b (inB x a b) w ?_
  unfold impl_within.f inB
  by_cases h : a ≤ x
  · rw [if_pos h, decide_eq_true h]; rfl
  · rw [if_neg h, decide_eq_false h]; rfl
theorem impl_LogOk.q {x a b : Int} {w : World} {n : Nat} {r : Bool} (h : inB x a b = r) : Calls Try.prog 44 #[.int .i64 x, .int .i64 a, .int .i64 b] (w.drewN n) fun e w' => e = .returned (.bool r) ∧ ∃ m, w' = w.drewN m := by
  subst h
  exact Calls.quiet_of ((impl_LogOk.w_any x a b _).mono fun _ _ ⟨h1, h2⟩ => ⟨h1, h2.out⟩)
def impl_LogOk.f (l0 : List Ent) : Option Bool := some (logB l0)
set_option maxHeartbeats 4000000 in
set_option maxRecDepth 100000 in
theorem impl_LogOk.any (A0 : Option Addr) (c0 : Nat) (l0 : List Ent) (w : World) (hr0 : Kd.C k61 w A0 l0.length l0) (hc0 : l0.length ≤ c0) :
    Calls Try.prog 42 #[.slice A0 l0.length c0] w fun e w' => e = .returned (.bool (logB l0)) ∧ Below w.heap.size w w' := by
  have hlen := hr0.2.1
  have HR := Aside0.mk hr0
  have hu61 := Try.underlying61
  clear hr0
  go_enter Try.func42, Try.ntmps42
  go_wp2
  go_loopw [7] (fun i w' => ∃ k : Nat, k ≤ l0.length ∧ i = .int .i64 k ∧ Aside0 (logGo (prevM l0 k) (l0.drop k) = logGo 0 l0) ∧ Aside0 (Below w.heap.size w w')) (fun i _ => l0.length - (intOf i).toNat)
  case atStart => exact ⟨0, Nat.zero_le _, rfl, ⟨rfl⟩, ⟨by first | exact Below.refl _ _ | exact below_alloc (Below.refl _ _) _⟩⟩
  case round =>
    obtain ⟨k, hk, rfl, HP, HB⟩ := hrel
    by_cases hlt : k < l0.length
    · obtain ⟨ad, rfl, x0, x1, x2, x3⟩ := at_T61 HR.out k (by omega) (by omega)
      replace x0 := pw_cell_below HB.out x0
      replace x1 := pw_cell_below HB.out x1
      replace x2 := pw_cell_below HB.out x2
      replace x3 := pw_cell_below HB.out x3
      have hxd : (rd_T61 l0 (k : Int)) = l0.getD k z61 := by unfold rd_T61; simp only [Int.toNat_natCast]
      rw [hxd] at x0 x1 x2 x3
      clear hxd
      obtain ⟨e, HE⟩ : ∃ e, Aside0 (e = l0.getD k z61) := ⟨_, ⟨rfl⟩⟩
      rw [← HE.out] at x0 x1 x2 x3
      simp only [Int.toNat_natCast] at x0 x1 x2 x3
      have HLT := Aside0.mk hlt
      cases b1 : inB e.f0.f0 0 3
      ·go_wp2
       go_quiet ((first | (go_at_call_of 44 (Value.int .i64 e.f0.f0); exact impl_LogOk.q b1) | (go_at_call_of 44 (Value.int .i64 e.f0.f1); exact impl_LogOk.q b2) | (go_at_call_of 44 (Value.int .i64 e.f1); exact impl_LogOk.q b3) | (go_at_call_of 44 (Value.int .i64 e.f2); exact impl_LogOk.q b4)))
       go_wp2
       go_ret
       exact ⟨by rw [logB_no HLT.out HP.out HE.out (by simp only [entB, b1, Bool.and_false, Bool.false_and])]; rfl, BB⟩
      · cases b2 : inB e.f0.f1 0 39
        ·go_wp2
         go_quiet ((first | (go_at_call_of 44 (Value.int .i64 e.f0.f0); exact impl_LogOk.q b1) | (go_at_call_of 44 (Value.int .i64 e.f0.f1); exact impl_LogOk.q b2) | (go_at_call_of 44 (Value.int .i64 e.f1); exact impl_LogOk.q b3) | (go_at_call_of 44 (Value.int .i64 e.f2); exact impl_LogOk.q b4)))
         go_wp2
         go_ret
         exact ⟨by rw [logB_no HLT.out HP.out HE.out (by simp only [entB, b2, Bool.and_false, Bool.false_and])]; rfl, BB⟩
        · cases b3 : inB e.f1 0 2
          ·go_wp2
           go_quiet ((first | (go_at_call_of 44 (Value.int .i64 e.f0.f0); exact impl_LogOk.q b1) | (go_at_call_of 44 (Value.int .i64 e.f0.f1); exact impl_LogOk.q b2) | (go_at_call_of 44 (Value.int .i64 e.f1); exact impl_LogOk.q b3) | (go_at_call_of 44 (Value.int .i64 e.f2); exact impl_LogOk.q b4)))
           go_wp2
           go_ret
           exact ⟨by rw [logB_no HLT.out HP.out HE.out (by simp only [entB, b3, Bool.and_false, Bool.false_and])]; rfl, BB⟩
          · cases b4 : inB e.f2 0 100000
            ·go_wp2
             go_quiet ((first | (go_at_call_of 44 (Value.int .i64 e.f0.f0); exact impl_LogOk.q b1) | (go_at_call_of 44 (Value.int .i64 e.f0.f1); exact impl_LogOk.q b2) | (go_at_call_of 44 (Value.int .i64 e.f1); exact impl_LogOk.q b3) | (go_at_call_of 44 (Value.int .i64 e.f2); exact impl_LogOk.q b4)))
             go_wp2
             go_ret
             exact ⟨by rw [logB_no HLT.out HP.out HE.out (by simp only [entB, b4, Bool.and_false, Bool.false_and])]; rfl, BB⟩
            · by_cases hk0 : 0 < k
              · have hk1 : (0 : Int) < (k : Int) := by omega
                have hk2 : (1 : Int) ≤ (k : Int) := by omega
                have hk3 : (k : Int) - 1 < (l0.length : Int) := by omega
                have hk4 : (0 : Int) ≤ (k : Int) - 1 := by omega
                obtain ⟨ad', had, y0, y1, y2, y3⟩ := at_T61 HR.out ((k : Int) - 1) hk4 hk3
                cases had
                replace y3 := pw_cell_below HB.out y3
                clear y0 y1 y2
                obtain ⟨p, HPR⟩ : ∃ p, Aside0 (prevM l0 k = p) := ⟨_, ⟨rfl⟩⟩
                have hyd : (rd_T61 l0 ((k : Int) - 1)).f2 = p := by
                  rw [← HPR.out]
                  obtain ⟨j, rfl⟩ : ∃ j, k = j + 1 := ⟨k - 1, by omega⟩
                  unfold rd_T61 prevM
                  rw [show (((j + 1 : Nat) : Int) - 1).toNat = j from by omega]
                rw [hyd] at y3
                clear hyd
                have y4 := y3
                rw [show ((k : Int) - 1).toNat = k - 1 from by omega] at y4
                have y5 := fun o => pw_cell_below (below_alloc (Below.refl _ _) o) y4
                clear y3
                by_cases b5 : p ≤ e.f2
                · have b5' : decide (e.f2 < p) = false := decide_eq_false (by omega)
                  have hw : IntKind.i64.wrap ((k : Int) - 1) = (k : Int) - 1 := IntWalk.i64_in _ (by omega)
                  go_wp2
                  go_quiet ((first | (go_at_call_of 44 (Value.int .i64 e.f0.f0); exact impl_LogOk.q b1) | (go_at_call_of 44 (Value.int .i64 e.f0.f1); exact impl_LogOk.q b2) | (go_at_call_of 44 (Value.int .i64 e.f1); exact impl_LogOk.q b3) | (go_at_call_of 44 (Value.int .i64 e.f2); exact impl_LogOk.q b4)))
                  clear hw
                  go_wp2
                  go_roundw
                  case rel => exact ⟨k + 1, by omega, by go_num, ⟨logB_next HLT.out HP.out HE.out (by rw [entB_t b1 b2 b3 b4, Bool.true_and]; exact decide_eq_true (show prevM l0 k ≤ e.f2 by rw [HPR.out]; exact b5))⟩, ⟨BB⟩⟩
                  case measure => simp [intOf]; omega
                · have b5' : decide (e.f2 < p) = true := decide_eq_true (by omega)
                  have b5n := Aside0.mk (show decide (prevM l0 k ≤ e.f2) = false by rw [HPR.out]; exact decide_eq_false b5)
                  have hw : IntKind.i64.wrap ((k : Int) - 1) = (k : Int) - 1 := IntWalk.i64_in _ (by omega)
                  go_wp2
                  go_quiet ((first | (go_at_call_of 44 (Value.int .i64 e.f0.f0); exact impl_LogOk.q b1) | (go_at_call_of 44 (Value.int .i64 e.f0.f1); exact impl_LogOk.q b2) | (go_at_call_of 44 (Value.int .i64 e.f1); exact impl_LogOk.q b3) | (go_at_call_of 44 (Value.int .i64 e.f2); exact impl_LogOk.q b4)))
                  clear hw
                  go_wp2
                  go_ret
                  exact ⟨by rw [logB_no HLT.out HP.out HE.out (by simp only [b5n.out, Bool.and_false, Bool.false_and])]; rfl, BB⟩
              · have hk1 : decide ((0 : Int) < (k : Int)) = false := decide_eq_false (by omega)
                have HK0 := Aside0.mk (show prevM l0 k = 0 by obtain rfl : k = 0 := by omega
                                                              rfl)
                go_wp2
                go_quiet ((first | (go_at_call_of 44 (Value.int .i64 e.f0.f0); exact impl_LogOk.q b1) | (go_at_call_of 44 (Value.int .i64 e.f0.f1); exact impl_LogOk.q b2) | (go_at_call_of 44 (Value.int .i64 e.f1); exact impl_LogOk.q b3) | (go_at_call_of 44 (Value.int .i64 e.f2); exact impl_LogOk.q b4)))
                go_wp2
                go_roundw
                case rel => exact ⟨k + 1, by omega, by go_num, ⟨logB_next HLT.out HP.out HE.out (by rw [entB_t b1 b2 b3 b4, Bool.true_and]; exact decide_eq_true (by rw [HK0.out]; exact (inB_t b4).1))⟩, ⟨BB⟩⟩
                case measure => simp [intOf]; omega
    · have hz : k = l0.length := by omega
      have h1 := HP.out
      rw [hz, List.drop_length] at h1
      have H1 := Aside0.mk h1
      clear h1 hz
      by_cases h11 : l0.length ≤ 30
      · have d1 : decide ((l0.length : Int) ≤ (30 : Int)) = true := decide_eq_true (by omega)
        have d2 : decide (l0.length ≤ 30) = true := decide_eq_true h11
        go_wp2
        go_ret
        refine ⟨?_, HB.out⟩
        unfold logB
        rw [← H1.out, d2]
        rfl
      · have d1 : decide ((l0.length : Int) ≤ (30 : Int)) = false := decide_eq_false (by omega)
        have d2 : decide (l0.length ≤ 30) = false := decide_eq_false h11
        go_wp2
        go_ret
        refine ⟨?_, HB.out⟩
        unfold logB
        rw [d2, Bool.and_false]
        rfl
theorem impl_LogOk.calls (A0 : Option Addr) (c0 : Nat) (l0 : List (S61)) (r : Bool) (w : World) (hr0 : Kd.C k61 w A0 l0.length l0) (hc0 : l0.length ≤ c0) (h : impl_LogOk.f l0 = some r) :
    Calls Try.prog 42 #[.slice A0 l0.length c0] w fun e w' => e = .returned (.bool r) ∧ Below w.heap.size w w' := by
  cases h
  exact impl_LogOk.any A0 c0 l0 w hr0 hc0
end Go.Proofs.Ytpbhoembdoofiaa.B
namespace Go.Proofs.Ytpbhoembdoofiaa.B
open Go.RowKit Go.Proofs.YtpbhoembdoofiaaW.PrintWords Go.Proofs.YtpbhoembdoofiaaW.PrintLast Go.Proofs.YtpbhoembdoofiaaW.PrintMore Go.Proofs.YtpbhoembdoofiaaW.Zc
set_option linter.unusedVariables false
set_option linter.unusedSimpArgs false
def impl_isWarmth.f (a0 : Int) : Option (Bool) := (impl_within.f a0 (-10) 40).bind fun t259 => (some t259)
set_option maxHeartbeats 8000000 in
set_option maxRecDepth 100000 in
theorem impl_isWarmth.calls (a0 : Int) (r : Bool) (w : World) (h : impl_isWarmth.f a0 = some r) :
    Calls Try.prog 43 #[.int .i64 a0] w fun e w' => e = .returned (.bool r) ∧ Drawn0 w w' := by
 have H : ((impl_within.f a0 (-10) 40).bind fun t259 => (some t259)) = some r := h
 clear h
 obtain ⟨t259, A2, H⟩ := bsI H
 obtain rfl := Option.some.inj H
 go_enter Try.func43, Try.ntmps43
 go_wp2_with (first | ((with_reducible refine gZc 44 (h := ?_)); refine gL 4 Try.func44 #[.int .i64 a0, .int .i64 (-10), .int .i64 40] ?_; (with_reducible refine (impl_within.calls a0 (-10) 40 t259 _ A2.out).mono ?_); rintro e w' ⟨rfl, ⟨nd, rfl⟩⟩; refine ⟨_, rfl, ?_⟩))
 go_ret
 exact ⟨RF, DR⟩
end Go.Proofs.Ytpbhoembdoofiaa.B
