import Derived.Test.YtpbhoembdoofiaaSF3
namespace Go.Proofs.Ytpbhoembdoofiaa.B
open Go.RowKit Go.Proofs.YtpbhoembdoofiaaW.PrintWords Go.Proofs.YtpbhoembdoofiaaW.PrintLast Go.Proofs.YtpbhoembdoofiaaW.PrintMore Go.Proofs.YtpbhoembdoofiaaW.Zc
set_option linter.unusedVariables false
set_option linter.unusedSimpArgs false
mutual
def laws_FnExactShopFault.j0 : Nat → Int → Bool → Bool → Bool → List (S107) → Int → List Int → Int → Int → List (S88) → Int → Int → List (S100) → Int → List Int → Int → Int → List (S61) → List (S100) → Int → List Int → Int → Int → List (S61) → List (S100) → Int → List Int → Int → Int → List (S61) → Option (Bool)
  | 0, _, _, _, _, _, _, _, _, _, _, _, _, _, _, _, _, _, _, _, _, _, _, _, _, _, _, _, _, _, _ => none
  | k + 1, x2, x9, x12, x50, x395000, x395001, x395002, x395003, x395004, x395005, x396000, x396001, x425000, x425001, x425002, x425003, x425004, x425005, x438000, x438001, x438002, x438003, x438004, x438005, x454000, x454001, x454002, x454003, x454004, x454005 => if x50 = true then (some false) else ((laws_toShop.f k x395000 x395001 x395002 x395003 x395004 x395005).bind fun bt455 => ((laws_eqShop.f k x438000 x438001 x438002 x438003 x438004 x438005 bt455.1 bt455.2.1 bt455.2.2.1 bt455.2.2.2.1 bt455.2.2.2.2.1 bt455.2.2.2.2.2).bind fun t467 => (if t467 = true then ((laws_markShop.f k x438000 x438001 x438002 x438003 x438004 x438005 1).bind fun bt468 => (if bt468.1 < 0 then (laws_FnExactShopFault.j1 k x2 x9 true x395000 x395001 x395002 x395003 x395004 x395005 x396000 x396001 x425000 x425001 x425002 x425003 x425004 x425005 x454000 x454001 x454002 x454003 x454004 x454005) else ((laws_eqShop.f k x454000 x454001 x454002 x454003 x454004 x454005 x425000 x425001 x425002 x425003 x425004 x425005).bind fun t472 => (if t472 = true then (laws_FnExactShopFault.j1 k x2 x9 (x12 != x9) x395000 x395001 x395002 x395003 x395004 x395005 x396000 x396001 x425000 x425001 x425002 x425003 x425004 x425005 x454000 x454001 x454002 x454003 x454004 x454005) else (laws_FnExactShopFault.j1 k x2 x9 true x395000 x395001 x395002 x395003 x395004 x395005 x396000 x396001 x425000 x425001 x425002 x425003 x425004 x425005 x454000 x454001 x454002 x454003 x454004 x454005))))) else (some false))))
def laws_FnExactShopFault.j1 : Nat → Int → Bool → Bool → List (S107) → Int → List Int → Int → Int → List (S88) → Int → Int → List (S100) → Int → List Int → Int → Int → List (S61) → List (S100) → Int → List Int → Int → Int → List (S61) → Option (Bool)
  | 0, _, _, _, _, _, _, _, _, _, _, _, _, _, _, _, _, _, _, _, _, _, _, _ => none
  | k + 1, x2, x9, x71, x395000, x395001, x395002, x395003, x395004, x395005, x396000, x396001, x425000, x425001, x425002, x425003, x425004, x425005, x454000, x454001, x454002, x454003, x454004, x454005 => if x71 = true then (some false) else ((laws_markShop.f k x454000 x454001 x454002 x454003 x454004 x454005 1).bind fun bt473 => ((laws_heldShop.f k bt473.2.1 x454001 bt473.2.2.1 x454003 x454004 bt473.2.2.2 1).bind fun t477 => (if t477 < 0 then (some false) else (if t477 = bt473.1 then ((laws_toShop.f k x395000 x395001 x395002 x395003 x395004 x395005).bind fun bt478 => ((laws_toPipe.f x396000 x396001).bind fun bt490 => ((impl_ShopFault.f bt478.1 bt478.2.1 bt478.2.2.1 bt478.2.2.2.1 bt478.2.2.2.2.1 bt478.2.2.2.2.2 bt490.1 bt490.2 x2).bind fun bt492 => ((laws_eqShop.f k bt492.1 bt492.2.1 bt492.2.2.1 bt492.2.2.2.1 bt492.2.2.2.2.1 bt492.2.2.2.2.2.1 x425000 x425001 x425002 x425003 x425004 x425005).bind fun t506 => (if t506 = true then (laws_FnExactShopFault.j2 k bt473.1 (bt492.2.2.2.2.2.2 != x9) bt473.2.1 x454001 bt473.2.2.1 x454003 x454004 bt473.2.2.2) else (laws_FnExactShopFault.j2 k bt473.1 true bt473.2.1 x454001 bt473.2.2.1 x454003 x454004 bt473.2.2.2)))))) else (some false)))))
def laws_FnExactShopFault.j2 : Nat → Int → Bool → List (S100) → Int → List Int → Int → Int → List (S61) → Option (Bool)
  | 0, _, _, _, _, _, _, _, _ => none
  | k + 1, x14, x100, x454000, x454001, x454002, x454003, x454004, x454005 => if x100 = true then (some false) else ((laws_heldShop.f k x454000 x454001 x454002 x454003 x454004 x454005 1).bind fun t507 => (if t507 < 0 then (some false) else (if t507 = x14 then (some true) else (some false))))
end
def laws_FnExactShopFault.f (k : Nat) (l0_0 : List (S107)) (a0_1 : Int) (l0_2 : List Int) (a0_3 : Int) (a0_4 : Int) (l0_5 : List (S88)) (a1_0 : Int) (a1_1 : Int) (a2 : Int) : Option (Bool) := (laws_szShop.f l0_0 a0_1 l0_2 a0_3 a0_4 l0_5 1048576).bind fun t396 => (if t396 < 0 then (some true) else ((laws_toShop.f k l0_0 a0_1 l0_2 a0_3 a0_4 l0_5).bind fun bt397 => ((laws_toPipe.f a1_0 a1_1).bind fun bt409 => ((spec_ShopFault.f k bt397.1 bt397.2.1 bt397.2.2.1 bt397.2.2.2.1 bt397.2.2.2.2.1 bt397.2.2.2.2.2 bt409.1 bt409.2 a2).bind fun bt411 => ((laws_toShop.f k l0_0 a0_1 l0_2 a0_3 a0_4 l0_5).bind fun bt425 => ((laws_toPipe.f a1_0 a1_1).bind fun bt438 => ((impl_ShopFault.f bt425.1 bt425.2.1 bt425.2.2.1 bt425.2.2.2.1 bt425.2.2.2.2.1 bt425.2.2.2.2.2 bt438.1 bt438.2 a2).bind fun bt440 => ((laws_eqShop.f k bt440.1 bt440.2.1 bt440.2.2.1 bt440.2.2.2.1 bt440.2.2.2.2.1 bt440.2.2.2.2.2.1 bt411.1 bt411.2.1 bt411.2.2.1 bt411.2.2.2.1 bt411.2.2.2.2.1 bt411.2.2.2.2.2.1).bind fun t454 => (if t454 = true then (laws_FnExactShopFault.j0 k a2 bt411.2.2.2.2.2.2 bt440.2.2.2.2.2.2 (bt440.2.2.2.2.2.2 != bt411.2.2.2.2.2.2) l0_0 a0_1 l0_2 a0_3 a0_4 l0_5 a1_0 a1_1 bt411.1 bt411.2.1 bt411.2.2.1 bt411.2.2.2.1 bt411.2.2.2.2.1 bt411.2.2.2.2.2.1 bt425.1 bt425.2.1 bt425.2.2.1 bt425.2.2.2.1 bt425.2.2.2.2.1 bt425.2.2.2.2.2 bt440.1 bt440.2.1 bt440.2.2.1 bt440.2.2.2.1 bt440.2.2.2.2.1 bt440.2.2.2.2.2.1) else (laws_FnExactShopFault.j0 k a2 bt411.2.2.2.2.2.2 bt440.2.2.2.2.2.2 true l0_0 a0_1 l0_2 a0_3 a0_4 l0_5 a1_0 a1_1 bt411.1 bt411.2.1 bt411.2.2.1 bt411.2.2.2.1 bt411.2.2.2.2.1 bt411.2.2.2.2.2.1 bt425.1 bt425.2.1 bt425.2.2.1 bt425.2.2.2.1 bt425.2.2.2.2.1 bt425.2.2.2.2.2 bt440.1 bt440.2.1 bt440.2.2.1 bt440.2.2.2.1 bt440.2.2.2.2.1 bt440.2.2.2.2.2.1))))))))))
def laws_FnExactShopFault.T5 : Bool × List (List Nat × List Nat) := (true, [([], []), ([0], [0]), ([], []), ([2, 1], [2]), ([], []), ([1, 3, 4, 3], [1, 3, 4]), ([5], [5]), ([6], [6]), ([6], [6]), ([], []), ([9, 7, 5, 0, 1, 2, 3, 4, 5, 6, 7, 9], [7, 9]), ([8, 10, 0, 1, 2, 3, 4, 5, 6, 7, 8, 9, 10], [8])])
def laws_FnExactShopFault.B5 : List Nat := [0, 1, 0, 7, 0, 31, 63, 127, 127, 0, 767, 2047]
theorem laws_FnExactShopFault.tab5 : rtab .any (opsOf Try.f3 5) = laws_FnExactShopFault.T5 := by kernel_rfl
theorem laws_FnExactShopFault.bits5 : waitsOk laws_FnExactShopFault.T5.2 laws_FnExactShopFault.B5 = true := by kernel_rfl
def laws_FnExactShopFault.T7 : Bool × List (List Nat × List Nat) := (true, [([], []), ([], []), ([1], [1]), ([], []), ([0, 2, 3, 2], [0, 2, 3]), ([4], [4]), ([5], [5]), ([5], [5]), ([], []), ([8, 6, 4, 0, 1, 2, 3, 4, 5, 6, 8], [6, 8]), ([7, 9, 0, 1, 2, 3, 4, 5, 6, 7, 8, 9], [7])])
def laws_FnExactShopFault.B7 : List Nat := [0, 0, 2, 0, 15, 31, 63, 63, 0, 383, 1023]
theorem laws_FnExactShopFault.tab7 : rtab .any (opsOf Try.f3 7) = laws_FnExactShopFault.T7 := by kernel_rfl
theorem laws_FnExactShopFault.bits7 : waitsOk laws_FnExactShopFault.T7.2 laws_FnExactShopFault.B7 = true := by kernel_rfl
def laws_FnExactShopFault.T24 : Bool × List (List Nat × List Nat) := (true, [([], []), ([0], [0]), ([], []), ([2, 1], [2]), ([], []), ([1, 3, 4, 3], [1, 3, 4]), ([5], [5]), ([6], [6]), ([6], [6]), ([], []), ([9, 7, 5, 0, 1, 2, 3, 4, 5, 6, 7, 9], [7, 9]), ([8, 10, 0, 1, 2, 3, 4, 5, 6, 7, 8, 9, 10], [8])])
def laws_FnExactShopFault.B24 : List Nat := [0, 1, 0, 7, 0, 31, 63, 127, 127, 0, 767, 2047]
theorem laws_FnExactShopFault.tab24 : rtab .any (opsOf Try.f3 24) = laws_FnExactShopFault.T24 := by kernel_rfl
theorem laws_FnExactShopFault.bits24 : waitsOk laws_FnExactShopFault.T24.2 laws_FnExactShopFault.B24 = true := by kernel_rfl
set_option maxHeartbeats 8000000 in
set_option maxRecDepth 100000 in
theorem laws_FnExactShopFault.calls (k : Nat) (A0_0 : Option Addr) (c0_0 : Nat) (l0_0 : List (S107)) (a0_1 : Int) (A0_2 : Option Addr) (c0_2 : Nat) (l0_2 : List Int) (a0_3 : Int) (a0_4 : Int) (A0_5 : Option Addr) (c0_5 : Nat) (l0_5 : List (S88)) (a1_0 : Int) (a1_1 : Int) (a2 : Int) (r : Bool) (w : World) (hr0_0 : Kd.C k107 w A0_0 l0_0.length l0_0) (hc0_0 : l0_0.length ≤ c0_0) (hr0_2 : Kd.C (Kd.int .i64) w A0_2 l0_2.length l0_2) (hc0_2 : l0_2.length ≤ c0_2) (hr0_5 : Kd.C k88 w A0_5 l0_5.length l0_5) (hc0_5 : l0_5.length ≤ c0_5) (h : laws_FnExactShopFault.f k l0_0 a0_1 l0_2 a0_3 a0_4 l0_5 a1_0 a1_1 a2 = some r) :
    Calls Try.prog 3 #[.agg #[.slice A0_0 l0_0.length c0_0, .int .i64 a0_1, .slice A0_2 l0_2.length c0_2, .int .i64 a0_3, .int .i64 a0_4, .slice A0_5 l0_5.length c0_5], .agg #[.int .i64 a1_0, .int .i64 a1_1], .int .i64 a2] w fun e w' => e = .returned (.bool r) ∧ Below w.heap.size w w' := by
 have hu28 := Try.underlying28
 have hu30 := Try.underlying30
 have hu37 := Try.underlying37
 have HR0_0 := Aside0.mk hr0_0
 have HC0_0 := Aside0.mk hc0_0
 clear hr0_0 hc0_0
 have HR0_2 := Aside0.mk hr0_2
 have HC0_2 := Aside0.mk hc0_2
 clear hr0_2 hc0_2
 have HR0_5 := Aside0.mk hr0_5
 have HC0_5 := Aside0.mk hc0_5
 clear hr0_5 hc0_5
 have HB := Aside0.mk (Below.refl w.heap.size w)
 have H : ((laws_szShop.f l0_0 a0_1 l0_2 a0_3 a0_4 l0_5 1048576).bind fun t396 => (if t396 < 0 then (some true) else ((laws_toShop.f k l0_0 a0_1 l0_2 a0_3 a0_4 l0_5).bind fun bt397 => ((laws_toPipe.f a1_0 a1_1).bind fun bt409 => ((spec_ShopFault.f k bt397.1 bt397.2.1 bt397.2.2.1 bt397.2.2.2.1 bt397.2.2.2.2.1 bt397.2.2.2.2.2 bt409.1 bt409.2 a2).bind fun bt411 => ((laws_toShop.f k l0_0 a0_1 l0_2 a0_3 a0_4 l0_5).bind fun bt425 => ((laws_toPipe.f a1_0 a1_1).bind fun bt438 => ((impl_ShopFault.f bt425.1 bt425.2.1 bt425.2.2.1 bt425.2.2.2.1 bt425.2.2.2.2.1 bt425.2.2.2.2.2 bt438.1 bt438.2 a2).bind fun bt440 => ((laws_eqShop.f k bt440.1 bt440.2.1 bt440.2.2.1 bt440.2.2.2.1 bt440.2.2.2.2.1 bt440.2.2.2.2.2.1 bt411.1 bt411.2.1 bt411.2.2.1 bt411.2.2.2.1 bt411.2.2.2.2.1 bt411.2.2.2.2.2.1).bind fun t454 => (if t454 = true then (laws_FnExactShopFault.j0 k a2 bt411.2.2.2.2.2.2 bt440.2.2.2.2.2.2 (bt440.2.2.2.2.2.2 != bt411.2.2.2.2.2.2) l0_0 a0_1 l0_2 a0_3 a0_4 l0_5 a1_0 a1_1 bt411.1 bt411.2.1 bt411.2.2.1 bt411.2.2.2.1 bt411.2.2.2.2.1 bt411.2.2.2.2.2.1 bt425.1 bt425.2.1 bt425.2.2.1 bt425.2.2.2.1 bt425.2.2.2.2.1 bt425.2.2.2.2.2 bt440.1 bt440.2.1 bt440.2.2.1 bt440.2.2.2.1 bt440.2.2.2.2.1 bt440.2.2.2.2.2.1) else (laws_FnExactShopFault.j0 k a2 bt411.2.2.2.2.2.2 bt440.2.2.2.2.2.2 true l0_0 a0_1 l0_2 a0_3 a0_4 l0_5 a1_0 a1_1 bt411.1 bt411.2.1 bt411.2.2.1 bt411.2.2.2.1 bt411.2.2.2.2.1 bt411.2.2.2.2.2.1 bt425.1 bt425.2.1 bt425.2.2.1 bt425.2.2.2.1 bt425.2.2.2.2.1 bt425.2.2.2.2.2 bt440.1 bt440.2.1 bt440.2.2.1 bt440.2.2.2.1 bt440.2.2.2.2.1 bt440.2.2.2.2.2.1))))))))))) = some r := h
 clear h
 obtain ⟨t396, A4, H⟩ := bsI H
 by_cases c5 : t396 < 0
 ·rw [if_pos c5] at H
  have c5b0 := decide_eq_true c5
  clear c5
  obtain rfl := Option.some.inj H
  go_enter Try.func3, Try.ntmps3
  go_wp2_with (first | ((with_reducible refine bZx 3 (h := ?_)); refine bxE #[.slice A0_0 l0_0.length c0_0, .int .i64 a0_1, .slice A0_2 l0_2.length c0_2, .int .i64 a0_3, .int .i64 a0_4, .slice A0_5 l0_5.length c0_5] 28 ?_; intro gb394 hg w6 hbox hb; have BK394 := Aside0.mk (hbox); have GE394 := szB hg; replace HB := bbB hb; clear hb hbox hg) | ((with_reducible refine bZx 4 (h := ?_)); refine bxE #[.int .i64 a1_0, .int .i64 a1_1] 30 ?_; intro gb395 hg w7 hbox hb; have BK395 := Aside0.mk (hbox); have GE395 := szB hg; replace HB := bbB hb; have NB394_395 := nlB BK394 hg; have NB395_394 := ngB BK394 hg; replace BK394 := kbB BK394 hb; clear hb hbox hg; have hnb8 := NB394_395.out; have hnc8 := NB395_394.out; obtain ⟨hcz9_0, hcz9_1, hcz9_2, hcz9_3, hcz9_4, hcz9_5, hfz9_0, hfz9_1, hfz9_2, hfz9_3, hfz9_4, hfz9_5⟩ := kZc6 BK394) | ((with_reducible refine gZc 5 (h := ?_)); refine gL 20 Try.func5 #[.agg #[.slice A0_0 l0_0.length c0_0, .int .i64 a0_1, .slice A0_2 l0_2.length c0_2, .int .i64 a0_3, .int .i64 a0_4, .slice A0_5 l0_5.length c0_5], .int .i64 1048576] ?_; (with_reducible refine (laws_szShop.calls _ _ l0_0 a0_1 _ _ l0_2 a0_3 a0_4 _ _ l0_5 1048576 t396 _ ?side1 ?side2 ?side3 ?side4 ?side5 ?side6 A4.out).mono ?_); (case side1 => exact cZr (Kd.C_below HR0_0.out HB.out)); (case side2 => exact HC0_0.out); (case side3 => exact cZr (Kd.C_below HR0_2.out HB.out)); (case side4 => exact HC0_2.out); (case side5 => exact cZr (Kd.C_below HR0_5.out HB.out)); (case side6 => exact HC0_5.out); rintro e w10 ⟨rfl, hb⟩; refine ⟨_, rfl, ?_⟩; replace BK394 := kbB BK394 hb; replace BK395 := kbB BK395 hb; replace HB := bbB hb; (try clear hb)))
  go_ret
  exact ⟨EV, BB⟩
 ·rw [if_neg c5] at H
  have c5b0 := decide_eq_false c5
  clear c5
  obtain ⟨⟨t397, t400, t401, t404, t405, t406⟩, A11, H⟩ := bsI H
  dsimp only at H
  obtain ⟨⟨t409, t410⟩, A12, H⟩ := bsI H
  dsimp only at H
  obtain ⟨⟨t411, t414, t415, t418, t419, t420, t423⟩, A13, H⟩ := bsI H
  dsimp only at H
  obtain ⟨⟨t425, t428, t429, t432, t433, t434⟩, A14, H⟩ := bsI H
  dsimp only at H
  obtain ⟨⟨t438, t439⟩, A15, H⟩ := bsI H
  dsimp only at H
  obtain ⟨⟨t440, t443, t444, t447, t448, t449, t452⟩, A16, H⟩ := bsI H
  dsimp only at H
  have HC17 := Aside0.mk H
  clear H
  go_enter Try.func3, Try.ntmps3
  try go_wp2_with (first | ((with_reducible refine bZx 3 (h := ?_)); refine bxE #[.slice A0_0 l0_0.length c0_0, .int .i64 a0_1, .slice A0_2 l0_2.length c0_2, .int .i64 a0_3, .int .i64 a0_4, .slice A0_5 l0_5.length c0_5] 28 ?_; intro gb394 hg w18 hbox hb; have BK394 := Aside0.mk (hbox); have GE394 := szB hg; replace HB := bbB hb; clear hb hbox hg) | ((with_reducible refine bZx 4 (h := ?_)); refine bxE #[.int .i64 a1_0, .int .i64 a1_1] 30 ?_; intro gb395 hg w19 hbox hb; have BK395 := Aside0.mk (hbox); have GE395 := szB hg; replace HB := bbB hb; have NB394_395 := nlB BK394 hg; have NB395_394 := ngB BK394 hg; replace BK394 := kbB BK394 hb; clear hb hbox hg; have hnb20 := NB394_395.out; have hnc20 := NB395_394.out; obtain ⟨hcz21_0, hcz21_1, hcz21_2, hcz21_3, hcz21_4, hcz21_5, hfz21_0, hfz21_1, hfz21_2, hfz21_3, hfz21_4, hfz21_5⟩ := kZc6 BK394) | ((with_reducible refine gZc 5 (h := ?_)); refine gL 20 Try.func5 #[.agg #[.slice A0_0 l0_0.length c0_0, .int .i64 a0_1, .slice A0_2 l0_2.length c0_2, .int .i64 a0_3, .int .i64 a0_4, .slice A0_5 l0_5.length c0_5], .int .i64 1048576] ?_; (with_reducible refine (laws_szShop.calls _ _ l0_0 a0_1 _ _ l0_2 a0_3 a0_4 _ _ l0_5 1048576 t396 _ ?side1 ?side2 ?side3 ?side4 ?side5 ?side6 A4.out).mono ?_); (case side1 => exact cZr (Kd.C_below HR0_0.out HB.out)); (case side2 => exact HC0_0.out); (case side3 => exact cZr (Kd.C_below HR0_2.out HB.out)); (case side4 => exact HC0_2.out); (case side5 => exact cZr (Kd.C_below HR0_5.out HB.out)); (case side6 => exact HC0_5.out); rintro e w22 ⟨rfl, hb⟩; refine ⟨_, rfl, ?_⟩; replace BK394 := kbB BK394 hb; replace BK395 := kbB BK395 hb; replace HB := bbB hb; (try clear hb)))
  replace BK394 := Aside0.mk (blk_drew BK394.out)
  replace BK395 := Aside0.mk (blk_drew BK395.out)
  replace HB := Aside0.mk (below_drew1 HB.out)
  refine start_ (n := 12) (S := fun w' => w'.cell? ⟨gb394, 0, none⟩ = some (.slice A0_0 l0_0.length c0_0) ∧ w'.cell? ⟨gb394, 1, none⟩ = some (.int .i64 a0_1) ∧ w'.cell? ⟨gb394, 2, none⟩ = some (.slice A0_2 l0_2.length c0_2) ∧ w'.cell? ⟨gb394, 3, none⟩ = some (.int .i64 a0_3) ∧ w'.cell? ⟨gb394, 4, none⟩ = some (.int .i64 a0_4) ∧ w'.cell? ⟨gb394, 5, none⟩ = some (.slice A0_5 l0_5.length c0_5) ∧ w'.cell? ⟨gb395, 0, none⟩ = some (.int .i64 a1_0) ∧ w'.cell? ⟨gb395, 1, none⟩ = some (.int .i64 a1_1)) (ds := []) (Array.replicate 12 false) (by kernel_rfl) rfl rfl ⟨kZc BK394 0, kZc BK394 1, kZc BK394 2, kZc BK394 3, kZc BK394 4, kZc BK394 5, kZc BK395 0, kZc BK395 1⟩ (fun hHeld => ?_); refine with_tabW laws_FnExactShopFault.tab5 laws_FnExactShopFault.bits5 (fun HT_ HW_ => ?_)
  generalize w22.drew = w23 at BK394 BK395 HB hHeld ⊢
  refine pZu 4 28 HT_ (h := ?_)
  refine tZk 0 24 HT_ HW_ hHeld (h := ?_)
  refine tZk 2 26 HT_ HW_ hHeld (h := ?_)
  refine join_ (σ := Value × Value × Value × Value × Value × Value × Nat) 2 #[true, true, true, true, true, true, true, true, true, true, false, false] (fun s_ => [(25, .agg #[s_.1, .int .i64 t400, s_.2.1, .int .i64 t404, .int .i64 t405, s_.2.2.1]), (27, .agg #[.int .i64 t409, .int .i64 t410]), (29, .tuple #[.agg #[s_.2.2.2.1, .int .i64 t414, s_.2.2.2.2.1, .int .i64 t418, .int .i64 t419, s_.2.2.2.2.2.1], .bool t423]), (8, .pointer (some ⟨s_.2.2.2.2.2.2, 0, none⟩)), (23, .tuple #[.agg #[s_.2.2.2.1, .int .i64 t414, s_.2.2.2.2.1, .int .i64 t418, .int .i64 t419, s_.2.2.2.2.2.1], .bool t423]), (30, .agg #[s_.2.2.2.1, .int .i64 t414, s_.2.2.2.2.1, .int .i64 t418, .int .i64 t419, s_.2.2.2.2.2.1]), (31, .bool t423)]) (fun s_ w' => (w'.cell? ⟨gb394, 0, none⟩ = some (.slice A0_0 l0_0.length c0_0) ∧ w'.cell? ⟨gb394, 1, none⟩ = some (.int .i64 a0_1) ∧ w'.cell? ⟨gb394, 2, none⟩ = some (.slice A0_2 l0_2.length c0_2) ∧ w'.cell? ⟨gb394, 3, none⟩ = some (.int .i64 a0_3) ∧ w'.cell? ⟨gb394, 4, none⟩ = some (.int .i64 a0_4) ∧ w'.cell? ⟨gb394, 5, none⟩ = some (.slice A0_5 l0_5.length c0_5) ∧ w'.cell? ⟨gb395, 0, none⟩ = some (.int .i64 a1_0) ∧ w'.cell? ⟨gb395, 1, none⟩ = some (.int .i64 a1_1)) ∧ (Kd.R k100 100 w' w.heap.size (fun k_ => some k_ ≠ (s_.2.2.2.1 : Value).ownBlock) s_.1 t397) ∧ (Kd.R (Kd.int .i64) 3 w' w.heap.size (fun k_ => some k_ ≠ (s_.2.2.2.2.1 : Value).ownBlock) s_.2.1 t401) ∧ (Kd.R k61 61 w' w.heap.size (fun k_ => some k_ ≠ (s_.2.2.2.2.2.1 : Value).ownBlock) s_.2.2.1 t406) ∧ (Kd.R k100 100 w' w.heap.size (fun k_ => some k_ ≠ (s_.1 : Value).ownBlock) s_.2.2.2.1 t411) ∧ (Kd.R (Kd.int .i64) 3 w' w.heap.size (fun k_ => some k_ ≠ (s_.2.1 : Value).ownBlock) s_.2.2.2.2.1 t415) ∧ (Kd.R k61 61 w' w.heap.size (fun k_ => some k_ ≠ (s_.2.2.1 : Value).ownBlock) s_.2.2.2.2.2.1 t420) ∧ (w'.heap[gb394]? = some (.cells #[.slice A0_0 l0_0.length c0_0, .int .i64 a0_1, .slice A0_2 l0_2.length c0_2, .int .i64 a0_3, .int .i64 a0_4, .slice A0_5 l0_5.length c0_5] 28 (0, 0))) ∧ (w'.heap[gb395]? = some (.cells #[.int .i64 a1_0, .int .i64 a1_1] 30 (0, 0))) ∧ (w'.heap[s_.2.2.2.2.2.2]? = some (.cells #[.slice none 0 0, .int .i64 0, .slice none 0 0, .int .i64 0, .int .i64 0, .slice none 0 0] 37 (0, 0))) ∧ (w.heap.size ≤ s_.2.2.2.2.2.2) ∧ (w.heap.size ≤ s_.2.2.2.2.2.2) ∧ (gb394 ≠ s_.2.2.2.2.2.2) ∧ (s_.2.2.2.2.2.2 ≠ gb394) ∧ (gb395 ≠ s_.2.2.2.2.2.2) ∧ (s_.2.2.2.2.2.2 ≠ gb395) ∧ (Below w.heap.size w w')) ?_ ?_
  rotate_left
  ·intro hCont
   refine two_ (i := 1) (j := 9) (Ni := some 25) (Nj := some 8) #[true, true, true, false, true, false, false, false, false, false, false, false] #[true, false, true, false, true, false, false, false, false, true, false, false] rfl rfl rfl rfl (two_of HT_.out (by kernel_rfl)) (by decide) (by decide) (fun K hK => ?_) (fun K hK => ?_)
   ·skip
    refine goes_ Try.func7 (by kernel_rfl) rfl #[.agg #[.slice A0_0 l0_0.length c0_0, .int .i64 a0_1, .slice A0_2 l0_2.length c0_2, .int .i64 a0_3, .int .i64 a0_4, .slice A0_5 l0_5.length c0_5]] (by rfl) rfl rfl MP ?_
    with_reducible refine (laws_toShop.calls k _ _ l0_0 a0_1 _ _ l0_2 a0_3 a0_4 _ _ l0_5 t397 t400 t401 t404 t405 t406 _ ?side1 ?side2 ?side3 ?side4 ?side5 ?side6 A11.out).mono ?_
    (case side1 => exact cZr (Kd.C_below HR0_0.out HB.out))
    (case side2 => exact HC0_0.out)
    (case side3 => exact cZr (Kd.C_below HR0_2.out HB.out))
    (case side4 => exact HC0_2.out)
    (case side5 => exact cZr (Kd.C_below HR0_5.out HB.out))
    (case side6 => exact HC0_5.out)
    rintro e w24 ⟨v398, v402, v407, rfl, ho0, ho1, ho2, hb⟩
    refine ⟨_, rfl, ?_⟩
    have HO399 := rlB ho0
    have HO403 := rlB ho1
    have HO408 := rlB ho2
    replace BK394 := kbB BK394 hb
    replace BK395 := kbB BK395 hb
    replace HB := bbB hb
    (try clear hb)
    (try clear ho0)
    (try clear ho1)
    (try clear ho2)
    refine hK.out _ _ ⟨kZc BK394 0, kZc BK394 1, kZc BK394 2, kZc BK394 3, kZc BK394 4, kZc BK394 5, kZc BK395 0, kZc BK395 1⟩ (fun hHeld => ?_)
    clear hK K
    refine nZm (h := ?_)
    refine two_ (i := 3) (j := 9) (Ni := some 27) (Nj := some 8) #[true, true, true, true, true, false, false, false, false, false, false, false] #[true, true, true, false, true, false, false, false, false, true, false, false] rfl rfl rfl rfl (two_of HT_.out (by kernel_rfl)) (by decide) (by decide) (fun K hK => ?_) (fun K hK => ?_)
    ·skip
     refine goes_ Try.func8 (by kernel_rfl) rfl #[.agg #[.int .i64 a1_0, .int .i64 a1_1]] (by rfl) rfl rfl MP ?_
     with_reducible refine (laws_toPipe.calls a1_0 a1_1 t409 t410 _ A12.out).mono ?_
     rintro e w25 ⟨rfl, hb⟩
     refine ⟨_, rfl, ?_⟩
     replace HO399 := rbB HO399 hb
     replace HO403 := rbB HO403 hb
     replace HO408 := rbB HO408 hb
     replace BK394 := kbB BK394 hb
     replace BK395 := kbB BK395 hb
     replace HB := bbB hb
     (try clear hb)
     obtain ⟨Ao26, co26, eo26⟩ := Kd.R_slice HO399.out
     (first | subst eo26 | (obtain ⟨f4_, f5_⟩ := slI eo26; subst f4_; subst f5_))
     obtain ⟨Ao27, co27, eo27⟩ := Kd.R_slice HO403.out
     (first | subst eo27 | (obtain ⟨f4_, f5_⟩ := slI eo27; subst f4_; subst f5_))
     obtain ⟨Ao28, co28, eo28⟩ := Kd.R_slice HO408.out
     (first | subst eo28 | (obtain ⟨f4_, f5_⟩ := slI eo28; subst f4_; subst f5_))
     refine hK.out _ _ ⟨kZc BK394 0, kZc BK394 1, kZc BK394 2, kZc BK394 3, kZc BK394 4, kZc BK394 5, kZc BK395 0, kZc BK395 1⟩ (fun hHeld => ?_)
     clear hK K
     refine nZm (h := ?_)
     refine two_ (i := 5) (j := 9) (Ni := some 29) (Nj := some 8) #[true, true, true, true, true, true, false, false, false, false, false, false] #[true, true, true, true, true, false, false, false, false, true, false, false] rfl rfl rfl rfl (two_of HT_.out (by kernel_rfl)) (by decide) (by decide) (fun K hK => ?_) (fun K hK => ?_)
     ·skip
      refine goes_ Try.func6 (by kernel_rfl) rfl #[.agg #[.slice Ao26 t397.length co26, .int .i64 t400, .slice Ao27 t401.length co27, .int .i64 t404, .int .i64 t405, .slice Ao28 t406.length co28], .agg #[.int .i64 t409, .int .i64 t410], .int .i64 a2] (by rfl) rfl rfl MP ?_
      with_reducible refine (spec_ShopFault.calls k _ _ t397 t400 _ _ t401 t404 t405 _ _ t406 t409 t410 a2 t411 t414 t415 t418 t419 t420 t423 _ ?side1 ?side2 ?side3 ?side4 ?side5 ?side6 A13.out).mono ?_
      (case side1 => exact rdC HO399)
      (case side2 => exact (rd1 HO399))
      (case side3 => exact rdC HO403)
      (case side4 => exact (rd1 HO403))
      (case side5 => exact rdC HO408)
      (case side6 => exact (rd1 HO408))
      rintro e w29 ⟨v412, v416, v421, rfl, ho0, ho1, ho2, hb⟩
      refine ⟨_, rfl, ?_⟩
      have HO413 := rnB ho0 HO399
      replace HO399 := reB HO399 ho0 hb
      have HO417 := rnB ho1 HO403
      replace HO403 := reB HO403 ho1 hb
      have HO422 := rnB ho2 HO408
      replace HO408 := reB HO408 ho2 hb
      replace BK394 := kbB BK394 hb
      replace BK395 := kbB BK395 hb
      replace HB := bbB hb
      (try clear hb)
      (try clear ho0)
      (try clear ho1)
      (try clear ho2)
      refine hK.out _ _ ⟨kZc BK394 0, kZc BK394 1, kZc BK394 2, kZc BK394 3, kZc BK394 4, kZc BK394 5, kZc BK395 0, kZc BK395 1⟩ (fun hHeld => ?_)
      clear hK K
      refine nZm (h := ?_)
      refine pZu 6 23 HT_ (h := ?_)
      refine pZu 7 30 HT_ (h := ?_)
      refine pZu 8 31 HT_ (h := ?_)
      refine oZn 9 (some 8) HT_ (h := fun K hK => ?_)
      refine box_step ?hg (N := 8) ?hd (cs := #[.slice none 0 0, .int .i64 0, .slice none 0 0, .int .i64 0, .int .i64 0, .slice none 0 0]) (t := 37) ?hr ?_; (case hd => rfl); (case hg => rfl); (case hr => exact GR)
      intro gb424 hg w30 hbox hb
      replace HO399 := rbB HO399 hb
      replace HO403 := rbB HO403 hb
      replace HO408 := rbB HO408 hb
      replace HO413 := rbB HO413 hb
      replace HO417 := rbB HO417 hb
      replace HO422 := rbB HO422 hb
      have BK424 := Aside0.mk (hbox)
      have GW424 := szB hg
      have GE424 := szB hg
      replace HB := bbB hb
      have NB394_424 := nlB BK394 hg
      have NB424_394 := ngB BK394 hg
      replace BK394 := kbB BK394 hb
      have NB395_424 := nlB BK395 hg
      have NB424_395 := ngB BK395 hg
      replace BK395 := kbB BK395 hb
      clear hb hbox hg
      refine hK.out _ _ ⟨kZc BK394 0, kZc BK394 1, kZc BK394 2, kZc BK394 3, kZc BK394 4, kZc BK394 5, kZc BK395 0, kZc BK395 1⟩ (fun hHeld => ?_)
      clear hK K
      refine nZm (h := ?_)
      exact nR (hCont (.slice Ao26 t397.length co26, .slice Ao27 t401.length co27, .slice Ao28 t406.length co28, v412, v416, v421, gb424) _ ⟨hHeld, (rM HO399 (fun _ hk => hk.2)), (rM HO403 (fun _ hk => hk.2)), (rM HO408 (fun _ hk => hk.2)), (rM HO413 (fun _ hk => hk.2)), (rM HO417 (fun _ hk => hk.2)), (rM HO422 (fun _ hk => hk.2)), (kZb BK394), (kZb BK395), (kZb BK424), GW424.out, GE424.out, NB394_424.out, NB424_394.out, NB395_424.out, NB424_395.out, BB⟩)
     ·skip
      refine box_step ?hg (N := 8) ?hd (cs := #[.slice none 0 0, .int .i64 0, .slice none 0 0, .int .i64 0, .int .i64 0, .slice none 0 0]) (t := 37) ?hr ?_; (case hd => rfl); (case hg => rfl); (case hr => exact GR)
      intro gb424 hg w26 hbox hb
      replace HO399 := rbB HO399 hb
      replace HO403 := rbB HO403 hb
      replace HO408 := rbB HO408 hb
      have BK424 := Aside0.mk (hbox)
      have GW424 := szB hg
      have GE424 := szB hg
      replace HB := bbB hb
      have NB394_424 := nlB BK394 hg
      have NB424_394 := ngB BK394 hg
      replace BK394 := kbB BK394 hb
      have NB395_424 := nlB BK395 hg
      have NB424_395 := ngB BK395 hg
      replace BK395 := kbB BK395 hb
      clear hb hbox hg
      obtain ⟨Ao27, co27, eo27⟩ := Kd.R_slice HO399.out
      (first | subst eo27 | (obtain ⟨f4_, f5_⟩ := slI eo27; subst f4_; subst f5_))
      obtain ⟨Ao28, co28, eo28⟩ := Kd.R_slice HO403.out
      (first | subst eo28 | (obtain ⟨f4_, f5_⟩ := slI eo28; subst f4_; subst f5_))
      obtain ⟨Ao29, co29, eo29⟩ := Kd.R_slice HO408.out
      (first | subst eo29 | (obtain ⟨f4_, f5_⟩ := slI eo29; subst f4_; subst f5_))
      refine hK.out _ _ ⟨kZc BK394 0, kZc BK394 1, kZc BK394 2, kZc BK394 3, kZc BK394 4, kZc BK394 5, kZc BK395 0, kZc BK395 1⟩ (fun hHeld => ?_)
      clear hK K
      refine nZm (h := ?_)
      refine oZn 5 (some 29) HT_ (h := fun K hK => ?_)
      refine goes_ Try.func6 (by kernel_rfl) rfl #[.agg #[.slice Ao27 t397.length co27, .int .i64 t400, .slice Ao28 t401.length co28, .int .i64 t404, .int .i64 t405, .slice Ao29 t406.length co29], .agg #[.int .i64 t409, .int .i64 t410], .int .i64 a2] (by rfl) rfl rfl MP ?_
      with_reducible refine (spec_ShopFault.calls k _ _ t397 t400 _ _ t401 t404 t405 _ _ t406 t409 t410 a2 t411 t414 t415 t418 t419 t420 t423 _ ?side1 ?side2 ?side3 ?side4 ?side5 ?side6 A13.out).mono ?_
      (case side1 => exact rdC HO399)
      (case side2 => exact (rd1 HO399))
      (case side3 => exact rdC HO403)
      (case side4 => exact (rd1 HO403))
      (case side5 => exact rdC HO408)
      (case side6 => exact (rd1 HO408))
      rintro e w30 ⟨v412, v416, v421, rfl, ho0, ho1, ho2, hb⟩
      refine ⟨_, rfl, ?_⟩
      have HO413 := rnB ho0 HO399
      replace HO399 := reB HO399 ho0 hb
      have HO417 := rnB ho1 HO403
      replace HO403 := reB HO403 ho1 hb
      have HO422 := rnB ho2 HO408
      replace HO408 := reB HO408 ho2 hb
      replace BK394 := kbB BK394 hb
      replace BK395 := kbB BK395 hb
      replace BK424 := kbB BK424 hb
      replace HB := bbB hb
      (try clear hb)
      (try clear ho0)
      (try clear ho1)
      (try clear ho2)
      refine hK.out _ _ ⟨kZc BK394 0, kZc BK394 1, kZc BK394 2, kZc BK394 3, kZc BK394 4, kZc BK394 5, kZc BK395 0, kZc BK395 1⟩ (fun hHeld => ?_)
      clear hK K
      refine nZm (h := ?_)
      refine pZu 6 23 HT_ (h := ?_)
      refine pZu 7 30 HT_ (h := ?_)
      refine pZu 8 31 HT_ (h := ?_)
      exact nR (hCont (.slice Ao27 t397.length co27, .slice Ao28 t401.length co28, .slice Ao29 t406.length co29, v412, v416, v421, gb424) _ ⟨hHeld, (rM HO399 (fun _ hk => hk.2)), (rM HO403 (fun _ hk => hk.2)), (rM HO408 (fun _ hk => hk.2)), (rM HO413 (fun _ hk => hk.2)), (rM HO417 (fun _ hk => hk.2)), (rM HO422 (fun _ hk => hk.2)), (kZb BK394), (kZb BK395), (kZb BK424), GW424.out, GE424.out, NB394_424.out, NB424_394.out, NB395_424.out, NB424_395.out, BB⟩)
    ·skip
     refine box_step ?hg (N := 8) ?hd (cs := #[.slice none 0 0, .int .i64 0, .slice none 0 0, .int .i64 0, .int .i64 0, .slice none 0 0]) (t := 37) ?hr ?_; (case hd => rfl); (case hg => rfl); (case hr => exact GR)
     intro gb424 hg w25 hbox hb
     replace HO399 := rbB HO399 hb
     replace HO403 := rbB HO403 hb
     replace HO408 := rbB HO408 hb
     have BK424 := Aside0.mk (hbox)
     have GW424 := szB hg
     have GE424 := szB hg
     replace HB := bbB hb
     have NB394_424 := nlB BK394 hg
     have NB424_394 := ngB BK394 hg
     replace BK394 := kbB BK394 hb
     have NB395_424 := nlB BK395 hg
     have NB424_395 := ngB BK395 hg
     replace BK395 := kbB BK395 hb
     clear hb hbox hg
     refine hK.out _ _ ⟨kZc BK394 0, kZc BK394 1, kZc BK394 2, kZc BK394 3, kZc BK394 4, kZc BK394 5, kZc BK395 0, kZc BK395 1⟩ (fun hHeld => ?_)
     clear hK K
     refine nZm (h := ?_)
     refine oZn 3 (some 27) HT_ (h := fun K hK => ?_)
     refine goes_ Try.func8 (by kernel_rfl) rfl #[.agg #[.int .i64 a1_0, .int .i64 a1_1]] (by rfl) rfl rfl MP ?_
     with_reducible refine (laws_toPipe.calls a1_0 a1_1 t409 t410 _ A12.out).mono ?_
     rintro e w26 ⟨rfl, hb⟩
     refine ⟨_, rfl, ?_⟩
     replace HO399 := rbB HO399 hb
     replace HO403 := rbB HO403 hb
     replace HO408 := rbB HO408 hb
     replace BK394 := kbB BK394 hb
     replace BK395 := kbB BK395 hb
     replace BK424 := kbB BK424 hb
     replace HB := bbB hb
     (try clear hb)
     obtain ⟨Ao27, co27, eo27⟩ := Kd.R_slice HO399.out
     (first | subst eo27 | (obtain ⟨f4_, f5_⟩ := slI eo27; subst f4_; subst f5_))
     obtain ⟨Ao28, co28, eo28⟩ := Kd.R_slice HO403.out
     (first | subst eo28 | (obtain ⟨f4_, f5_⟩ := slI eo28; subst f4_; subst f5_))
     obtain ⟨Ao29, co29, eo29⟩ := Kd.R_slice HO408.out
     (first | subst eo29 | (obtain ⟨f4_, f5_⟩ := slI eo29; subst f4_; subst f5_))
     refine hK.out _ _ ⟨kZc BK394 0, kZc BK394 1, kZc BK394 2, kZc BK394 3, kZc BK394 4, kZc BK394 5, kZc BK395 0, kZc BK395 1⟩ (fun hHeld => ?_)
     clear hK K
     refine nZm (h := ?_)
     refine oZn 5 (some 29) HT_ (h := fun K hK => ?_)
     refine goes_ Try.func6 (by kernel_rfl) rfl #[.agg #[.slice Ao27 t397.length co27, .int .i64 t400, .slice Ao28 t401.length co28, .int .i64 t404, .int .i64 t405, .slice Ao29 t406.length co29], .agg #[.int .i64 t409, .int .i64 t410], .int .i64 a2] (by rfl) rfl rfl MP ?_
     with_reducible refine (spec_ShopFault.calls k _ _ t397 t400 _ _ t401 t404 t405 _ _ t406 t409 t410 a2 t411 t414 t415 t418 t419 t420 t423 _ ?side1 ?side2 ?side3 ?side4 ?side5 ?side6 A13.out).mono ?_
     (case side1 => exact rdC HO399)
     (case side2 => exact (rd1 HO399))
     (case side3 => exact rdC HO403)
     (case side4 => exact (rd1 HO403))
     (case side5 => exact rdC HO408)
     (case side6 => exact (rd1 HO408))
     rintro e w30 ⟨v412, v416, v421, rfl, ho0, ho1, ho2, hb⟩
     refine ⟨_, rfl, ?_⟩
     have HO413 := rnB ho0 HO399
     replace HO399 := reB HO399 ho0 hb
     have HO417 := rnB ho1 HO403
     replace HO403 := reB HO403 ho1 hb
     have HO422 := rnB ho2 HO408
     replace HO408 := reB HO408 ho2 hb
     replace BK394 := kbB BK394 hb
     replace BK395 := kbB BK395 hb
     replace BK424 := kbB BK424 hb
     replace HB := bbB hb
     (try clear hb)
     (try clear ho0)
     (try clear ho1)
     (try clear ho2)
     refine hK.out _ _ ⟨kZc BK394 0, kZc BK394 1, kZc BK394 2, kZc BK394 3, kZc BK394 4, kZc BK394 5, kZc BK395 0, kZc BK395 1⟩ (fun hHeld => ?_)
     clear hK K
     refine nZm (h := ?_)
     refine pZu 6 23 HT_ (h := ?_)
     refine pZu 7 30 HT_ (h := ?_)
     refine pZu 8 31 HT_ (h := ?_)
     exact nR (hCont (.slice Ao27 t397.length co27, .slice Ao28 t401.length co28, .slice Ao29 t406.length co29, v412, v416, v421, gb424) _ ⟨hHeld, (rM HO399 (fun _ hk => hk.2)), (rM HO403 (fun _ hk => hk.2)), (rM HO408 (fun _ hk => hk.2)), (rM HO413 (fun _ hk => hk.2)), (rM HO417 (fun _ hk => hk.2)), (rM HO422 (fun _ hk => hk.2)), (kZb BK394), (kZb BK395), (kZb BK424), GW424.out, GE424.out, NB394_424.out, NB424_394.out, NB395_424.out, NB424_395.out, BB⟩)
   ·skip
    refine box_step ?hg (N := 8) ?hd (cs := #[.slice none 0 0, .int .i64 0, .slice none 0 0, .int .i64 0, .int .i64 0, .slice none 0 0]) (t := 37) ?hr ?_; (case hd => rfl); (case hg => rfl); (case hr => exact GR)
    intro gb424 hg w24 hbox hb
    have BK424 := Aside0.mk (hbox)
    have GW424 := szB hg
    have GE424 := szB hg
    replace HB := bbB hb
    have NB394_424 := nlB BK394 hg
    have NB424_394 := ngB BK394 hg
    replace BK394 := kbB BK394 hb
    have NB395_424 := nlB BK395 hg
    have NB424_395 := ngB BK395 hg
    replace BK395 := kbB BK395 hb
    clear hb hbox hg
    refine hK.out _ _ ⟨kZc BK394 0, kZc BK394 1, kZc BK394 2, kZc BK394 3, kZc BK394 4, kZc BK394 5, kZc BK395 0, kZc BK395 1⟩ (fun hHeld => ?_)
    clear hK K
    refine nZm (h := ?_)
    refine oZn 1 (some 25) HT_ (h := fun K hK => ?_)
    refine goes_ Try.func7 (by kernel_rfl) rfl #[.agg #[.slice A0_0 l0_0.length c0_0, .int .i64 a0_1, .slice A0_2 l0_2.length c0_2, .int .i64 a0_3, .int .i64 a0_4, .slice A0_5 l0_5.length c0_5]] (by rfl) rfl rfl MP ?_
    with_reducible refine (laws_toShop.calls k _ _ l0_0 a0_1 _ _ l0_2 a0_3 a0_4 _ _ l0_5 t397 t400 t401 t404 t405 t406 _ ?side1 ?side2 ?side3 ?side4 ?side5 ?side6 A11.out).mono ?_
    (case side1 => exact cZr (Kd.C_below HR0_0.out HB.out))
    (case side2 => exact HC0_0.out)
    (case side3 => exact cZr (Kd.C_below HR0_2.out HB.out))
    (case side4 => exact HC0_2.out)
    (case side5 => exact cZr (Kd.C_below HR0_5.out HB.out))
    (case side6 => exact HC0_5.out)
    rintro e w25 ⟨v398, v402, v407, rfl, ho0, ho1, ho2, hb⟩
    refine ⟨_, rfl, ?_⟩
    have HO399 := rlB ho0
    have HO403 := rlB ho1
    have HO408 := rlB ho2
    replace BK394 := kbB BK394 hb
    replace BK395 := kbB BK395 hb
    replace BK424 := kbB BK424 hb
    replace HB := bbB hb
    (try clear hb)
    (try clear ho0)
    (try clear ho1)
    (try clear ho2)
    refine hK.out _ _ ⟨kZc BK394 0, kZc BK394 1, kZc BK394 2, kZc BK394 3, kZc BK394 4, kZc BK394 5, kZc BK395 0, kZc BK395 1⟩ (fun hHeld => ?_)
    clear hK K
    refine nZm (h := ?_)
    refine oZn 3 (some 27) HT_ (h := fun K hK => ?_)
    refine goes_ Try.func8 (by kernel_rfl) rfl #[.agg #[.int .i64 a1_0, .int .i64 a1_1]] (by rfl) rfl rfl MP ?_
    with_reducible refine (laws_toPipe.calls a1_0 a1_1 t409 t410 _ A12.out).mono ?_
    rintro e w26 ⟨rfl, hb⟩
    refine ⟨_, rfl, ?_⟩
    replace HO399 := rbB HO399 hb
    replace HO403 := rbB HO403 hb
    replace HO408 := rbB HO408 hb
    replace BK394 := kbB BK394 hb
    replace BK395 := kbB BK395 hb
    replace BK424 := kbB BK424 hb
    replace HB := bbB hb
    (try clear hb)
    obtain ⟨Ao27, co27, eo27⟩ := Kd.R_slice HO399.out
    (first | subst eo27 | (obtain ⟨f4_, f5_⟩ := slI eo27; subst f4_; subst f5_))
    obtain ⟨Ao28, co28, eo28⟩ := Kd.R_slice HO403.out
    (first | subst eo28 | (obtain ⟨f4_, f5_⟩ := slI eo28; subst f4_; subst f5_))
    obtain ⟨Ao29, co29, eo29⟩ := Kd.R_slice HO408.out
    (first | subst eo29 | (obtain ⟨f4_, f5_⟩ := slI eo29; subst f4_; subst f5_))
    refine hK.out _ _ ⟨kZc BK394 0, kZc BK394 1, kZc BK394 2, kZc BK394 3, kZc BK394 4, kZc BK394 5, kZc BK395 0, kZc BK395 1⟩ (fun hHeld => ?_)
    clear hK K
    refine nZm (h := ?_)
    refine oZn 5 (some 29) HT_ (h := fun K hK => ?_)
    refine goes_ Try.func6 (by kernel_rfl) rfl #[.agg #[.slice Ao27 t397.length co27, .int .i64 t400, .slice Ao28 t401.length co28, .int .i64 t404, .int .i64 t405, .slice Ao29 t406.length co29], .agg #[.int .i64 t409, .int .i64 t410], .int .i64 a2] (by rfl) rfl rfl MP ?_
    with_reducible refine (spec_ShopFault.calls k _ _ t397 t400 _ _ t401 t404 t405 _ _ t406 t409 t410 a2 t411 t414 t415 t418 t419 t420 t423 _ ?side1 ?side2 ?side3 ?side4 ?side5 ?side6 A13.out).mono ?_
    (case side1 => exact rdC HO399)
    (case side2 => exact (rd1 HO399))
    (case side3 => exact rdC HO403)
    (case side4 => exact (rd1 HO403))
    (case side5 => exact rdC HO408)
    (case side6 => exact (rd1 HO408))
    rintro e w30 ⟨v412, v416, v421, rfl, ho0, ho1, ho2, hb⟩
    refine ⟨_, rfl, ?_⟩
    have HO413 := rnB ho0 HO399
    replace HO399 := reB HO399 ho0 hb
    have HO417 := rnB ho1 HO403
    replace HO403 := reB HO403 ho1 hb
    have HO422 := rnB ho2 HO408
    replace HO408 := reB HO408 ho2 hb
    replace BK394 := kbB BK394 hb
    replace BK395 := kbB BK395 hb
    replace BK424 := kbB BK424 hb
    replace HB := bbB hb
    (try clear hb)
    (try clear ho0)
    (try clear ho1)
    (try clear ho2)
    refine hK.out _ _ ⟨kZc BK394 0, kZc BK394 1, kZc BK394 2, kZc BK394 3, kZc BK394 4, kZc BK394 5, kZc BK395 0, kZc BK395 1⟩ (fun hHeld => ?_)
    clear hK K
    refine nZm (h := ?_)
    refine pZu 6 23 HT_ (h := ?_)
    refine pZu 7 30 HT_ (h := ?_)
    refine pZu 8 31 HT_ (h := ?_)
    exact nR (hCont (.slice Ao27 t397.length co27, .slice Ao28 t401.length co28, .slice Ao29 t406.length co29, v412, v416, v421, gb424) _ ⟨hHeld, (rM HO399 (fun _ hk => hk.2)), (rM HO403 (fun _ hk => hk.2)), (rM HO408 (fun _ hk => hk.2)), (rM HO413 (fun _ hk => hk.2)), (rM HO417 (fun _ hk => hk.2)), (rM HO422 (fun _ hk => hk.2)), (kZb BK394), (kZb BK395), (kZb BK424), GW424.out, GE424.out, NB394_424.out, NB424_394.out, NB395_424.out, NB424_395.out, BB⟩)
  rintro ⟨v398, v402, v407, v412, v416, v421, gb424⟩ w31 ⟨hS_, h0_, h1_, h2_, h3_, h4_, h5_, h6_, h7_, h8_, h9_, h10_, h11_, h12_, h13_, h14_, h15_⟩
  have n0_ : Aside0 (Kd.R k100 100 w31 w.heap.size (fun k_ => some k_ ≠ (v412 : Value).ownBlock) v398 t397) := ⟨h0_⟩
  have n1_ : Aside0 (Kd.R (Kd.int .i64) 3 w31 w.heap.size (fun k_ => some k_ ≠ (v416 : Value).ownBlock) v402 t401) := ⟨h1_⟩
  have n2_ : Aside0 (Kd.R k61 61 w31 w.heap.size (fun k_ => some k_ ≠ (v421 : Value).ownBlock) v407 t406) := ⟨h2_⟩
  have n3_ : Aside0 (Kd.R k100 100 w31 w.heap.size (fun k_ => some k_ ≠ (v398 : Value).ownBlock) v412 t411) := ⟨h3_⟩
  have n4_ : Aside0 (Kd.R (Kd.int .i64) 3 w31 w.heap.size (fun k_ => some k_ ≠ (v402 : Value).ownBlock) v416 t415) := ⟨h4_⟩
  have n5_ : Aside0 (Kd.R k61 61 w31 w.heap.size (fun k_ => some k_ ≠ (v407 : Value).ownBlock) v421 t420) := ⟨h5_⟩
  have n6_ : Aside0 (w31.heap[gb394]? = some (.cells #[.slice A0_0 l0_0.length c0_0, .int .i64 a0_1, .slice A0_2 l0_2.length c0_2, .int .i64 a0_3, .int .i64 a0_4, .slice A0_5 l0_5.length c0_5] 28 (0, 0))) := ⟨h6_⟩
  have n7_ : Aside0 (w31.heap[gb395]? = some (.cells #[.int .i64 a1_0, .int .i64 a1_1] 30 (0, 0))) := ⟨h7_⟩
  have n8_ : Aside0 (w31.heap[gb424]? = some (.cells #[.slice none 0 0, .int .i64 0, .slice none 0 0, .int .i64 0, .int .i64 0, .slice none 0 0] 37 (0, 0))) := ⟨h8_⟩
  have n9_ : Aside0 (w.heap.size ≤ gb424) := ⟨h9_⟩
  have n10_ : Aside0 (w.heap.size ≤ gb424) := ⟨h10_⟩
  have n11_ : Aside0 (gb394 ≠ gb424) := ⟨h11_⟩
  have n12_ : Aside0 (gb424 ≠ gb394) := ⟨h12_⟩
  have n13_ : Aside0 (gb395 ≠ gb424) := ⟨h13_⟩
  have n14_ : Aside0 (gb424 ≠ gb395) := ⟨h14_⟩
  have n15_ : Aside0 (Below w.heap.size w w31) := ⟨h15_⟩
  clear BK394
  clear BK395
  clear HB
  clear h0_ h1_ h2_ h3_ h4_ h5_ h6_ h7_ h8_ h9_ h10_ h11_ h12_ h13_ h14_ h15_
  have HO399 := n0_
  have HO403 := n1_
  have HO408 := n2_
  have HO413 := n3_
  have HO417 := n4_
  have HO422 := n5_
  have BK394 := n6_
  have BK395 := n7_
  have BK424 := n8_
  have GW424 := n9_
  have GE424 := n10_
  have NB394_424 := n11_
  have NB424_394 := n12_
  have NB395_424 := n13_
  have NB424_395 := n14_
  have HB := n15_
  clear n0_ n1_ n2_ n3_ n4_ n5_ n6_ n7_ n8_ n9_ n10_ n11_ n12_ n13_ n14_ n15_
  have hHeld : w31.cell? ⟨gb394, 0, none⟩ = some (.slice A0_0 l0_0.length c0_0) ∧ w31.cell? ⟨gb394, 1, none⟩ = some (.int .i64 a0_1) ∧ w31.cell? ⟨gb394, 2, none⟩ = some (.slice A0_2 l0_2.length c0_2) ∧ w31.cell? ⟨gb394, 3, none⟩ = some (.int .i64 a0_3) ∧ w31.cell? ⟨gb394, 4, none⟩ = some (.int .i64 a0_4) ∧ w31.cell? ⟨gb394, 5, none⟩ = some (.slice A0_5 l0_5.length c0_5) ∧ w31.cell? ⟨gb395, 0, none⟩ = some (.int .i64 a1_0) ∧ w31.cell? ⟨gb395, 1, none⟩ = some (.int .i64 a1_1) := hS_
  obtain ⟨Ao32, co32, eo32⟩ := Kd.R_slice HO413.out
  (first | subst eo32 | (obtain ⟨f4_, f5_⟩ := slI eo32; subst f4_; subst f5_))
  obtain ⟨Ao35, co35, eo35⟩ := Kd.R_slice HO417.out
  (first | subst eo35 | (obtain ⟨f4_, f5_⟩ := slI eo35; subst f4_; subst f5_))
  obtain ⟨Ao39, co39, eo39⟩ := Kd.R_slice HO422.out
  (first | subst eo39 | (obtain ⟨f4_, f5_⟩ := slI eo39; subst f4_; subst f5_))
  refine norm_ (a' := ?_) ?_ ?_
  rotate_left
  ·simp only [putAll, Act.put, List.setIfInBounds_toArray, List.set_cons_zero, List.set_cons_succ]
   rfl
  refine oZn 10 none HT_ (h := fun K hK => ?_)
  have hs33 := kZc BK424 0
  have hfs33 := blk_frozen BK424.out 0
  have hns33_0 := NB394_424.out
  have hns33_1 := NB395_424.out
  have hms33_0 := NB424_394.out
  have hms33_1 := NB424_395.out
  have hs34 := kZc BK424 1
  have hfs34 := blk_frozen BK424.out 1
  have hns34_0 := NB394_424.out
  have hns34_1 := NB395_424.out
  have hms34_0 := NB424_394.out
  have hms34_1 := NB424_395.out
  have hs36 := kZc BK424 2
  have hfs36 := blk_frozen BK424.out 2
  have hns36_0 := NB394_424.out
  have hns36_1 := NB395_424.out
  have hms36_0 := NB424_394.out
  have hms36_1 := NB424_395.out
  have hs37 := kZc BK424 3
  have hfs37 := blk_frozen BK424.out 3
  have hns37_0 := NB394_424.out
  have hns37_1 := NB395_424.out
  have hms37_0 := NB424_394.out
  have hms37_1 := NB424_395.out
  have hs38 := kZc BK424 4
  have hfs38 := blk_frozen BK424.out 4
  have hns38_0 := NB394_424.out
  have hns38_1 := NB395_424.out
  have hms38_0 := NB424_394.out
  have hms38_1 := NB424_395.out
  have hs40 := kZc BK424 5
  have hfs40 := blk_frozen BK424.out 5
  have hns40_0 := NB394_424.out
  have hns40_1 := NB395_424.out
  have hms40_0 := NB424_394.out
  have hms40_1 := NB424_395.out
  refine skip_ (w1 := ?_) (by rfl) rfl ?_ ?_
  rotate_left
  ·go_simp
   rfl
  refine hK.out _ _ ⟨((cell_far (p := ⟨gb424, _, none⟩) NB394_424.out _).trans (((cell_far (p := ⟨gb424, _, none⟩) NB394_424.out _).trans (((cell_far (p := ⟨gb424, _, none⟩) NB394_424.out _).trans (((cell_far (p := ⟨gb424, _, none⟩) NB394_424.out _).trans (((cell_far (p := ⟨gb424, _, none⟩) NB394_424.out _).trans (((cell_far (p := ⟨gb424, _, none⟩) NB394_424.out _).trans (hHeld.1)))))))))))), ((cell_far (p := ⟨gb424, _, none⟩) NB394_424.out _).trans (((cell_far (p := ⟨gb424, _, none⟩) NB394_424.out _).trans (((cell_far (p := ⟨gb424, _, none⟩) NB394_424.out _).trans (((cell_far (p := ⟨gb424, _, none⟩) NB394_424.out _).trans (((cell_far (p := ⟨gb424, _, none⟩) NB394_424.out _).trans (((cell_far (p := ⟨gb424, _, none⟩) NB394_424.out _).trans (hHeld.2.1)))))))))))), ((cell_far (p := ⟨gb424, _, none⟩) NB394_424.out _).trans (((cell_far (p := ⟨gb424, _, none⟩) NB394_424.out _).trans (((cell_far (p := ⟨gb424, _, none⟩) NB394_424.out _).trans (((cell_far (p := ⟨gb424, _, none⟩) NB394_424.out _).trans (((cell_far (p := ⟨gb424, _, none⟩) NB394_424.out _).trans (((cell_far (p := ⟨gb424, _, none⟩) NB394_424.out _).trans (hHeld.2.2.1)))))))))))), ((cell_far (p := ⟨gb424, _, none⟩) NB394_424.out _).trans (((cell_far (p := ⟨gb424, _, none⟩) NB394_424.out _).trans (((cell_far (p := ⟨gb424, _, none⟩) NB394_424.out _).trans (((cell_far (p := ⟨gb424, _, none⟩) NB394_424.out _).trans (((cell_far (p := ⟨gb424, _, none⟩) NB394_424.out _).trans (((cell_far (p := ⟨gb424, _, none⟩) NB394_424.out _).trans (hHeld.2.2.2.1)))))))))))), ((cell_far (p := ⟨gb424, _, none⟩) NB394_424.out _).trans (((cell_far (p := ⟨gb424, _, none⟩) NB394_424.out _).trans (((cell_far (p := ⟨gb424, _, none⟩) NB394_424.out _).trans (((cell_far (p := ⟨gb424, _, none⟩) NB394_424.out _).trans (((cell_far (p := ⟨gb424, _, none⟩) NB394_424.out _).trans (((cell_far (p := ⟨gb424, _, none⟩) NB394_424.out _).trans (hHeld.2.2.2.2.1)))))))))))), ((cell_far (p := ⟨gb424, _, none⟩) NB394_424.out _).trans (((cell_far (p := ⟨gb424, _, none⟩) NB394_424.out _).trans (((cell_far (p := ⟨gb424, _, none⟩) NB394_424.out _).trans (((cell_far (p := ⟨gb424, _, none⟩) NB394_424.out _).trans (((cell_far (p := ⟨gb424, _, none⟩) NB394_424.out _).trans (((cell_far (p := ⟨gb424, _, none⟩) NB394_424.out _).trans (hHeld.2.2.2.2.2.1)))))))))))), ((cell_far (p := ⟨gb424, _, none⟩) NB395_424.out _).trans (((cell_far (p := ⟨gb424, _, none⟩) NB395_424.out _).trans (((cell_far (p := ⟨gb424, _, none⟩) NB395_424.out _).trans (((cell_far (p := ⟨gb424, _, none⟩) NB395_424.out _).trans (((cell_far (p := ⟨gb424, _, none⟩) NB395_424.out _).trans (((cell_far (p := ⟨gb424, _, none⟩) NB395_424.out _).trans (hHeld.2.2.2.2.2.2.1)))))))))))), ((cell_far (p := ⟨gb424, _, none⟩) NB395_424.out _).trans (((cell_far (p := ⟨gb424, _, none⟩) NB395_424.out _).trans (((cell_far (p := ⟨gb424, _, none⟩) NB395_424.out _).trans (((cell_far (p := ⟨gb424, _, none⟩) NB395_424.out _).trans (((cell_far (p := ⟨gb424, _, none⟩) NB395_424.out _).trans (((cell_far (p := ⟨gb424, _, none⟩) NB395_424.out _).trans (hHeld.2.2.2.2.2.2.2))))))))))))⟩ (fun hHeld => ?_)
  clear hK K
  refine pZu 11 9 HT_ (h := ?_)
  refine done_ (done_of HT_.out (by kernel_rfl)) ?_
  have hnb41 := NB394_424.out
  have hnc41 := NB424_394.out
  obtain ⟨hcz42_0, hcz42_1, hcz42_2, hcz42_3, hcz42_4, hcz42_5, hfz42_0, hfz42_1, hfz42_2, hfz42_3, hfz42_4, hfz42_5⟩ := kZc6 BK394
  try go_wp2_with (first | ((with_reducible refine gZc 7 (h := ?_)); refine gL 33 Try.func7 #[.agg #[.slice A0_0 l0_0.length c0_0, .int .i64 a0_1, .slice A0_2 l0_2.length c0_2, .int .i64 a0_3, .int .i64 a0_4, .slice A0_5 l0_5.length c0_5]] ?_; (with_reducible refine (laws_toShop.calls k _ _ l0_0 a0_1 _ _ l0_2 a0_3 a0_4 _ _ l0_5 t425 t428 t429 t432 t433 t434 _ ?side1 ?side2 ?side3 ?side4 ?side5 ?side6 A14.out).mono ?_); (case side1 => exact Kd.C_below HR0_0.out BB); (case side2 => exact HC0_0.out); (case side3 => exact Kd.C_below HR0_2.out BB); (case side4 => exact HC0_2.out); (case side5 => exact Kd.C_below HR0_5.out BB); (case side6 => exact HC0_5.out); rintro e w43 ⟨v426, v430, v435, rfl, ho0, ho1, ho2, hb⟩; refine ⟨_, rfl, ?_⟩; have HO427 := Aside0.mk (Kd.R_lower (Kd.R_new' (Kd.R_new' ho0 (Kd.R_lt (rZz HO399))) (Kd.R_lt (rZz HO413))) (below_size BB)); replace HO399 := Aside0.mk (Kd.R_elder' (rZz HO399) (Kd.R_base ho0) hb); replace HO413 := Aside0.mk (Kd.R_elder' (rZz HO413) (Kd.R_base ho0) hb); have HO431 := Aside0.mk (Kd.R_lower (Kd.R_new' (Kd.R_new' ho1 (Kd.R_lt (rZz HO403))) (Kd.R_lt (rZz HO417))) (below_size BB)); replace HO403 := Aside0.mk (Kd.R_elder' (rZz HO403) (Kd.R_base ho1) hb); replace HO417 := Aside0.mk (Kd.R_elder' (rZz HO417) (Kd.R_base ho1) hb); have HO436 := Aside0.mk (Kd.R_lower (Kd.R_new' (Kd.R_new' ho2 (Kd.R_lt (rZz HO408))) (Kd.R_lt (rZz HO422))) (below_size BB)); replace HO408 := Aside0.mk (Kd.R_elder' (rZz HO408) (Kd.R_base ho2) hb); replace HO422 := Aside0.mk (Kd.R_elder' (rZz HO422) (Kd.R_base ho2) hb); replace BK394 := Aside0.mk (blk_below (g := gb394) (o := .cells #[.slice A0_0 l0_0.length c0_0, .int .i64 a0_1, .slice A0_2 l0_2.length c0_2, .int .i64 a0_3, .int .i64 a0_4, .slice A0_5 l0_5.length c0_5] 28 (0, 0)) (kZq BK394) hb); replace BK395 := Aside0.mk (blk_below (g := gb395) (o := .cells #[.int .i64 a1_0, .int .i64 a1_1] 30 (0, 0)) (kZq BK395) hb); replace BK424 := Aside0.mk (blk_below (g := gb424) (o := .cells #[.slice Ao32 t411.length co32, .int .i64 t414, .slice Ao35 t415.length co35, .int .i64 t418, .int .i64 t419, .slice Ao39 t420.length co39] 37 (0, 0)) (kZq BK424) hb); replace HB := bbB hb; (try clear hb); (try clear ho0); (try clear ho1); (try clear ho2)) | ((with_reducible refine bZx 10 (h := ?_)); refine bxE #[.slice none 0 0, .int .i64 0, .slice none 0 0, .int .i64 0, .int .i64 0, .slice none 0 0] 37 ?_; intro gb437 hg w44 hbox hb; replace HO399 := rbB HO399 hb; replace HO403 := rbB HO403 hb; replace HO408 := rbB HO408 hb; replace HO413 := rbB HO413 hb; replace HO417 := rbB HO417 hb; replace HO422 := rbB HO422 hb; replace HO427 := rbB HO427 hb; replace HO431 := rbB HO431 hb; replace HO436 := rbB HO436 hb; have BK437 := Aside0.mk (hbox); have GE437 := szB hg; replace HB := bbB hb; have NB394_437 := nlB BK394 hg; have NB437_394 := ngB BK394 hg; replace BK394 := kbB BK394 hb; have NB395_437 := nlB BK395 hg; have NB437_395 := ngB BK395 hg; replace BK395 := kbB BK395 hb; have NB424_437 := nlB BK424 hg; have NB437_424 := ngB BK424 hg; replace BK424 := kbB BK424 hb; clear hb hbox hg; obtain ⟨Ao45, co45, eo45⟩ := Kd.R_slice HO427.out; subst eo45; have hnb46 := NB437_394.out; have hnc46 := NB394_437.out; have hnb47 := NB437_395.out; have hnc47 := NB395_437.out; have hnb48 := NB437_424.out; have hnc48 := NB424_437.out; obtain ⟨hcz49_0, hcz49_1, hcz49_2, hcz49_3, hcz49_4, hcz49_5, hfz49_0, hfz49_1, hfz49_2, hfz49_3, hfz49_4, hfz49_5⟩ := kZc6 BK437; obtain ⟨Ao50, co50, eo50⟩ := Kd.R_slice HO431.out; subst eo50; obtain ⟨Ao51, co51, eo51⟩ := Kd.R_slice HO436.out; subst eo51))
  have n0_ : Aside0 (Kd.R k100 100 ((((((w44.setCell ⟨gb437, 0, none⟩ (.slice Ao45 t425.length co45)).setCell ⟨gb437, 1, none⟩ (.int .i64 t428)).setCell ⟨gb437, 2, none⟩ (.slice Ao50 t429.length co50)).setCell ⟨gb437, 3, none⟩ (.int .i64 t432)).setCell ⟨gb437, 4, none⟩ (.int .i64 t433)).setCell ⟨gb437, 5, none⟩ (.slice Ao51 t434.length co51)) w.heap.size (fun k_ => some k_ ≠ (.slice Ao32 t411.length co32 : Value).ownBlock ∧ some k_ ≠ (.slice Ao45 t425.length co45 : Value).ownBlock) v398 t397) := ⟨by (with_reducible repeat (first | apply Kd.R_alloc | apply Kd.R_drewN | apply Kd.R_drew)); exact Kd.R_mono (Kd.R_far (p := ⟨gb437, 5, none⟩) (Kd.R_far (p := ⟨gb437, 4, none⟩) (Kd.R_far (p := ⟨gb437, 3, none⟩) (Kd.R_far (p := ⟨gb437, 2, none⟩) (Kd.R_far (p := ⟨gb437, 1, none⟩) (Kd.R_far (p := ⟨gb437, 0, none⟩) (Kd.R_types HO399.out BK437.out (by decide)) (fun _ hk => hk.2) (.slice Ao45 t425.length co45)) (fun _ hk => hk.2) (.int .i64 t428)) (fun _ hk => hk.2) (.slice Ao50 t429.length co50)) (fun _ hk => hk.2) (.int .i64 t432)) (fun _ hk => hk.2) (.int .i64 t433)) (fun _ hk => hk.2) (.slice Ao51 t434.length co51)) (fun _ hk => ⟨hk.1.1, hk.1.2⟩)⟩
  have n1_ : Aside0 (Kd.R (Kd.int .i64) 3 ((((((w44.setCell ⟨gb437, 0, none⟩ (.slice Ao45 t425.length co45)).setCell ⟨gb437, 1, none⟩ (.int .i64 t428)).setCell ⟨gb437, 2, none⟩ (.slice Ao50 t429.length co50)).setCell ⟨gb437, 3, none⟩ (.int .i64 t432)).setCell ⟨gb437, 4, none⟩ (.int .i64 t433)).setCell ⟨gb437, 5, none⟩ (.slice Ao51 t434.length co51)) w.heap.size (fun k_ => some k_ ≠ (.slice Ao35 t415.length co35 : Value).ownBlock ∧ some k_ ≠ (.slice Ao50 t429.length co50 : Value).ownBlock) v402 t401) := ⟨by (with_reducible repeat (first | apply Kd.R_alloc | apply Kd.R_drewN | apply Kd.R_drew)); exact Kd.R_mono (Kd.R_far (p := ⟨gb437, 5, none⟩) (Kd.R_far (p := ⟨gb437, 4, none⟩) (Kd.R_far (p := ⟨gb437, 3, none⟩) (Kd.R_far (p := ⟨gb437, 2, none⟩) (Kd.R_far (p := ⟨gb437, 1, none⟩) (Kd.R_far (p := ⟨gb437, 0, none⟩) (Kd.R_types HO403.out BK437.out (by decide)) (fun _ hk => hk.2) (.slice Ao45 t425.length co45)) (fun _ hk => hk.2) (.int .i64 t428)) (fun _ hk => hk.2) (.slice Ao50 t429.length co50)) (fun _ hk => hk.2) (.int .i64 t432)) (fun _ hk => hk.2) (.int .i64 t433)) (fun _ hk => hk.2) (.slice Ao51 t434.length co51)) (fun _ hk => ⟨hk.1.1, hk.1.2⟩)⟩
  have n2_ : Aside0 (Kd.R k61 61 ((((((w44.setCell ⟨gb437, 0, none⟩ (.slice Ao45 t425.length co45)).setCell ⟨gb437, 1, none⟩ (.int .i64 t428)).setCell ⟨gb437, 2, none⟩ (.slice Ao50 t429.length co50)).setCell ⟨gb437, 3, none⟩ (.int .i64 t432)).setCell ⟨gb437, 4, none⟩ (.int .i64 t433)).setCell ⟨gb437, 5, none⟩ (.slice Ao51 t434.length co51)) w.heap.size (fun k_ => some k_ ≠ (.slice Ao39 t420.length co39 : Value).ownBlock ∧ some k_ ≠ (.slice Ao51 t434.length co51 : Value).ownBlock) v407 t406) := ⟨by (with_reducible repeat (first | apply Kd.R_alloc | apply Kd.R_drewN | apply Kd.R_drew)); exact Kd.R_mono (Kd.R_far (p := ⟨gb437, 5, none⟩) (Kd.R_far (p := ⟨gb437, 4, none⟩) (Kd.R_far (p := ⟨gb437, 3, none⟩) (Kd.R_far (p := ⟨gb437, 2, none⟩) (Kd.R_far (p := ⟨gb437, 1, none⟩) (Kd.R_far (p := ⟨gb437, 0, none⟩) (Kd.R_types HO408.out BK437.out (by decide)) (fun _ hk => hk.2) (.slice Ao45 t425.length co45)) (fun _ hk => hk.2) (.int .i64 t428)) (fun _ hk => hk.2) (.slice Ao50 t429.length co50)) (fun _ hk => hk.2) (.int .i64 t432)) (fun _ hk => hk.2) (.int .i64 t433)) (fun _ hk => hk.2) (.slice Ao51 t434.length co51)) (fun _ hk => ⟨hk.1.1, hk.1.2⟩)⟩
  have n3_ : Aside0 (Kd.R k100 100 ((((((w44.setCell ⟨gb437, 0, none⟩ (.slice Ao45 t425.length co45)).setCell ⟨gb437, 1, none⟩ (.int .i64 t428)).setCell ⟨gb437, 2, none⟩ (.slice Ao50 t429.length co50)).setCell ⟨gb437, 3, none⟩ (.int .i64 t432)).setCell ⟨gb437, 4, none⟩ (.int .i64 t433)).setCell ⟨gb437, 5, none⟩ (.slice Ao51 t434.length co51)) w.heap.size (fun k_ => some k_ ≠ (v398 : Value).ownBlock ∧ some k_ ≠ (.slice Ao45 t425.length co45 : Value).ownBlock) (.slice Ao32 t411.length co32) t411) := ⟨by (with_reducible repeat (first | apply Kd.R_alloc | apply Kd.R_drewN | apply Kd.R_drew)); exact Kd.R_mono (Kd.R_far (p := ⟨gb437, 5, none⟩) (Kd.R_far (p := ⟨gb437, 4, none⟩) (Kd.R_far (p := ⟨gb437, 3, none⟩) (Kd.R_far (p := ⟨gb437, 2, none⟩) (Kd.R_far (p := ⟨gb437, 1, none⟩) (Kd.R_far (p := ⟨gb437, 0, none⟩) (Kd.R_types HO413.out BK437.out (by decide)) (fun _ hk => hk.2) (.slice Ao45 t425.length co45)) (fun _ hk => hk.2) (.int .i64 t428)) (fun _ hk => hk.2) (.slice Ao50 t429.length co50)) (fun _ hk => hk.2) (.int .i64 t432)) (fun _ hk => hk.2) (.int .i64 t433)) (fun _ hk => hk.2) (.slice Ao51 t434.length co51)) (fun _ hk => ⟨hk.1.1, hk.1.2⟩)⟩
  have n4_ : Aside0 (Kd.R (Kd.int .i64) 3 ((((((w44.setCell ⟨gb437, 0, none⟩ (.slice Ao45 t425.length co45)).setCell ⟨gb437, 1, none⟩ (.int .i64 t428)).setCell ⟨gb437, 2, none⟩ (.slice Ao50 t429.length co50)).setCell ⟨gb437, 3, none⟩ (.int .i64 t432)).setCell ⟨gb437, 4, none⟩ (.int .i64 t433)).setCell ⟨gb437, 5, none⟩ (.slice Ao51 t434.length co51)) w.heap.size (fun k_ => some k_ ≠ (v402 : Value).ownBlock ∧ some k_ ≠ (.slice Ao50 t429.length co50 : Value).ownBlock) (.slice Ao35 t415.length co35) t415) := ⟨by (with_reducible repeat (first | apply Kd.R_alloc | apply Kd.R_drewN | apply Kd.R_drew)); exact Kd.R_mono (Kd.R_far (p := ⟨gb437, 5, none⟩) (Kd.R_far (p := ⟨gb437, 4, none⟩) (Kd.R_far (p := ⟨gb437, 3, none⟩) (Kd.R_far (p := ⟨gb437, 2, none⟩) (Kd.R_far (p := ⟨gb437, 1, none⟩) (Kd.R_far (p := ⟨gb437, 0, none⟩) (Kd.R_types HO417.out BK437.out (by decide)) (fun _ hk => hk.2) (.slice Ao45 t425.length co45)) (fun _ hk => hk.2) (.int .i64 t428)) (fun _ hk => hk.2) (.slice Ao50 t429.length co50)) (fun _ hk => hk.2) (.int .i64 t432)) (fun _ hk => hk.2) (.int .i64 t433)) (fun _ hk => hk.2) (.slice Ao51 t434.length co51)) (fun _ hk => ⟨hk.1.1, hk.1.2⟩)⟩
  have n5_ : Aside0 (Kd.R k61 61 ((((((w44.setCell ⟨gb437, 0, none⟩ (.slice Ao45 t425.length co45)).setCell ⟨gb437, 1, none⟩ (.int .i64 t428)).setCell ⟨gb437, 2, none⟩ (.slice Ao50 t429.length co50)).setCell ⟨gb437, 3, none⟩ (.int .i64 t432)).setCell ⟨gb437, 4, none⟩ (.int .i64 t433)).setCell ⟨gb437, 5, none⟩ (.slice Ao51 t434.length co51)) w.heap.size (fun k_ => some k_ ≠ (v407 : Value).ownBlock ∧ some k_ ≠ (.slice Ao51 t434.length co51 : Value).ownBlock) (.slice Ao39 t420.length co39) t420) := ⟨by (with_reducible repeat (first | apply Kd.R_alloc | apply Kd.R_drewN | apply Kd.R_drew)); exact Kd.R_mono (Kd.R_far (p := ⟨gb437, 5, none⟩) (Kd.R_far (p := ⟨gb437, 4, none⟩) (Kd.R_far (p := ⟨gb437, 3, none⟩) (Kd.R_far (p := ⟨gb437, 2, none⟩) (Kd.R_far (p := ⟨gb437, 1, none⟩) (Kd.R_far (p := ⟨gb437, 0, none⟩) (Kd.R_types HO422.out BK437.out (by decide)) (fun _ hk => hk.2) (.slice Ao45 t425.length co45)) (fun _ hk => hk.2) (.int .i64 t428)) (fun _ hk => hk.2) (.slice Ao50 t429.length co50)) (fun _ hk => hk.2) (.int .i64 t432)) (fun _ hk => hk.2) (.int .i64 t433)) (fun _ hk => hk.2) (.slice Ao51 t434.length co51)) (fun _ hk => ⟨hk.1.1, hk.1.2⟩)⟩
  have n6_ : Aside0 (Kd.R k100 100 ((((((w44.setCell ⟨gb437, 0, none⟩ (.slice Ao45 t425.length co45)).setCell ⟨gb437, 1, none⟩ (.int .i64 t428)).setCell ⟨gb437, 2, none⟩ (.slice Ao50 t429.length co50)).setCell ⟨gb437, 3, none⟩ (.int .i64 t432)).setCell ⟨gb437, 4, none⟩ (.int .i64 t433)).setCell ⟨gb437, 5, none⟩ (.slice Ao51 t434.length co51)) w.heap.size (fun k_ => some k_ ≠ (v398 : Value).ownBlock ∧ some k_ ≠ (.slice Ao32 t411.length co32 : Value).ownBlock) (.slice Ao45 t425.length co45) t425) := ⟨by (with_reducible repeat (first | apply Kd.R_alloc | apply Kd.R_drewN | apply Kd.R_drew)); exact Kd.R_mono (Kd.R_far (p := ⟨gb437, 5, none⟩) (Kd.R_far (p := ⟨gb437, 4, none⟩) (Kd.R_far (p := ⟨gb437, 3, none⟩) (Kd.R_far (p := ⟨gb437, 2, none⟩) (Kd.R_far (p := ⟨gb437, 1, none⟩) (Kd.R_far (p := ⟨gb437, 0, none⟩) (Kd.R_types HO427.out BK437.out (by decide)) (fun _ hk => hk.2) (.slice Ao45 t425.length co45)) (fun _ hk => hk.2) (.int .i64 t428)) (fun _ hk => hk.2) (.slice Ao50 t429.length co50)) (fun _ hk => hk.2) (.int .i64 t432)) (fun _ hk => hk.2) (.int .i64 t433)) (fun _ hk => hk.2) (.slice Ao51 t434.length co51)) (fun _ hk => ⟨hk.1.1.2, hk.1.2⟩)⟩
  have n7_ : Aside0 (Kd.R (Kd.int .i64) 3 ((((((w44.setCell ⟨gb437, 0, none⟩ (.slice Ao45 t425.length co45)).setCell ⟨gb437, 1, none⟩ (.int .i64 t428)).setCell ⟨gb437, 2, none⟩ (.slice Ao50 t429.length co50)).setCell ⟨gb437, 3, none⟩ (.int .i64 t432)).setCell ⟨gb437, 4, none⟩ (.int .i64 t433)).setCell ⟨gb437, 5, none⟩ (.slice Ao51 t434.length co51)) w.heap.size (fun k_ => some k_ ≠ (v402 : Value).ownBlock ∧ some k_ ≠ (.slice Ao35 t415.length co35 : Value).ownBlock) (.slice Ao50 t429.length co50) t429) := ⟨by (with_reducible repeat (first | apply Kd.R_alloc | apply Kd.R_drewN | apply Kd.R_drew)); exact Kd.R_mono (Kd.R_far (p := ⟨gb437, 5, none⟩) (Kd.R_far (p := ⟨gb437, 4, none⟩) (Kd.R_far (p := ⟨gb437, 3, none⟩) (Kd.R_far (p := ⟨gb437, 2, none⟩) (Kd.R_far (p := ⟨gb437, 1, none⟩) (Kd.R_far (p := ⟨gb437, 0, none⟩) (Kd.R_types HO431.out BK437.out (by decide)) (fun _ hk => hk.2) (.slice Ao45 t425.length co45)) (fun _ hk => hk.2) (.int .i64 t428)) (fun _ hk => hk.2) (.slice Ao50 t429.length co50)) (fun _ hk => hk.2) (.int .i64 t432)) (fun _ hk => hk.2) (.int .i64 t433)) (fun _ hk => hk.2) (.slice Ao51 t434.length co51)) (fun _ hk => ⟨hk.1.1.2, hk.1.2⟩)⟩
  have n8_ : Aside0 (Kd.R k61 61 ((((((w44.setCell ⟨gb437, 0, none⟩ (.slice Ao45 t425.length co45)).setCell ⟨gb437, 1, none⟩ (.int .i64 t428)).setCell ⟨gb437, 2, none⟩ (.slice Ao50 t429.length co50)).setCell ⟨gb437, 3, none⟩ (.int .i64 t432)).setCell ⟨gb437, 4, none⟩ (.int .i64 t433)).setCell ⟨gb437, 5, none⟩ (.slice Ao51 t434.length co51)) w.heap.size (fun k_ => some k_ ≠ (v407 : Value).ownBlock ∧ some k_ ≠ (.slice Ao39 t420.length co39 : Value).ownBlock) (.slice Ao51 t434.length co51) t434) := ⟨by (with_reducible repeat (first | apply Kd.R_alloc | apply Kd.R_drewN | apply Kd.R_drew)); exact Kd.R_mono (Kd.R_far (p := ⟨gb437, 5, none⟩) (Kd.R_far (p := ⟨gb437, 4, none⟩) (Kd.R_far (p := ⟨gb437, 3, none⟩) (Kd.R_far (p := ⟨gb437, 2, none⟩) (Kd.R_far (p := ⟨gb437, 1, none⟩) (Kd.R_far (p := ⟨gb437, 0, none⟩) (Kd.R_types HO436.out BK437.out (by decide)) (fun _ hk => hk.2) (.slice Ao45 t425.length co45)) (fun _ hk => hk.2) (.int .i64 t428)) (fun _ hk => hk.2) (.slice Ao50 t429.length co50)) (fun _ hk => hk.2) (.int .i64 t432)) (fun _ hk => hk.2) (.int .i64 t433)) (fun _ hk => hk.2) (.slice Ao51 t434.length co51)) (fun _ hk => ⟨hk.1.1.2, hk.1.2⟩)⟩
  have n9_ : Aside0 (((((((w44.setCell ⟨gb437, 0, none⟩ (.slice Ao45 t425.length co45)).setCell ⟨gb437, 1, none⟩ (.int .i64 t428)).setCell ⟨gb437, 2, none⟩ (.slice Ao50 t429.length co50)).setCell ⟨gb437, 3, none⟩ (.int .i64 t432)).setCell ⟨gb437, 4, none⟩ (.int .i64 t433)).setCell ⟨gb437, 5, none⟩ (.slice Ao51 t434.length co51)).heap[gb394]? = some (.cells #[.slice A0_0 l0_0.length c0_0, .int .i64 a0_1, .slice A0_2 l0_2.length c0_2, .int .i64 a0_3, .int .i64 a0_4, .slice A0_5 l0_5.length c0_5] 28 (0, 0))) := ⟨by (with_reducible repeat (first | refine blk_drewN ?_ _ | refine blk_drew ?_ | refine blk_alloc ?_ _)); refine blk_far ?_ NB394_437.out _; (with_reducible repeat (first | refine blk_drewN ?_ _ | refine blk_drew ?_ | refine blk_alloc ?_ _)); refine blk_far ?_ NB394_437.out _; (with_reducible repeat (first | refine blk_drewN ?_ _ | refine blk_drew ?_ | refine blk_alloc ?_ _)); refine blk_far ?_ NB394_437.out _; (with_reducible repeat (first | refine blk_drewN ?_ _ | refine blk_drew ?_ | refine blk_alloc ?_ _)); refine blk_far ?_ NB394_437.out _; (with_reducible repeat (first | refine blk_drewN ?_ _ | refine blk_drew ?_ | refine blk_alloc ?_ _)); refine blk_far ?_ NB394_437.out _; (with_reducible repeat (first | refine blk_drewN ?_ _ | refine blk_drew ?_ | refine blk_alloc ?_ _)); refine blk_far ?_ NB394_437.out _; (with_reducible repeat (first | refine blk_drewN ?_ _ | refine blk_drew ?_ | refine blk_alloc ?_ _)); exact BK394.out⟩
  have n10_ : Aside0 (((((((w44.setCell ⟨gb437, 0, none⟩ (.slice Ao45 t425.length co45)).setCell ⟨gb437, 1, none⟩ (.int .i64 t428)).setCell ⟨gb437, 2, none⟩ (.slice Ao50 t429.length co50)).setCell ⟨gb437, 3, none⟩ (.int .i64 t432)).setCell ⟨gb437, 4, none⟩ (.int .i64 t433)).setCell ⟨gb437, 5, none⟩ (.slice Ao51 t434.length co51)).heap[gb395]? = some (.cells #[.int .i64 a1_0, .int .i64 a1_1] 30 (0, 0))) := ⟨by (with_reducible repeat (first | refine blk_drewN ?_ _ | refine blk_drew ?_ | refine blk_alloc ?_ _)); refine blk_far ?_ NB395_437.out _; (with_reducible repeat (first | refine blk_drewN ?_ _ | refine blk_drew ?_ | refine blk_alloc ?_ _)); refine blk_far ?_ NB395_437.out _; (with_reducible repeat (first | refine blk_drewN ?_ _ | refine blk_drew ?_ | refine blk_alloc ?_ _)); refine blk_far ?_ NB395_437.out _; (with_reducible repeat (first | refine blk_drewN ?_ _ | refine blk_drew ?_ | refine blk_alloc ?_ _)); refine blk_far ?_ NB395_437.out _; (with_reducible repeat (first | refine blk_drewN ?_ _ | refine blk_drew ?_ | refine blk_alloc ?_ _)); refine blk_far ?_ NB395_437.out _; (with_reducible repeat (first | refine blk_drewN ?_ _ | refine blk_drew ?_ | refine blk_alloc ?_ _)); refine blk_far ?_ NB395_437.out _; (with_reducible repeat (first | refine blk_drewN ?_ _ | refine blk_drew ?_ | refine blk_alloc ?_ _)); exact BK395.out⟩
  have n11_ : Aside0 (((((((w44.setCell ⟨gb437, 0, none⟩ (.slice Ao45 t425.length co45)).setCell ⟨gb437, 1, none⟩ (.int .i64 t428)).setCell ⟨gb437, 2, none⟩ (.slice Ao50 t429.length co50)).setCell ⟨gb437, 3, none⟩ (.int .i64 t432)).setCell ⟨gb437, 4, none⟩ (.int .i64 t433)).setCell ⟨gb437, 5, none⟩ (.slice Ao51 t434.length co51)).heap[gb424]? = some (.cells #[.slice Ao32 t411.length co32, .int .i64 t414, .slice Ao35 t415.length co35, .int .i64 t418, .int .i64 t419, .slice Ao39 t420.length co39] 37 (0, 0))) := ⟨by (with_reducible repeat (first | refine blk_drewN ?_ _ | refine blk_drew ?_ | refine blk_alloc ?_ _)); refine blk_far ?_ NB424_437.out _; (with_reducible repeat (first | refine blk_drewN ?_ _ | refine blk_drew ?_ | refine blk_alloc ?_ _)); refine blk_far ?_ NB424_437.out _; (with_reducible repeat (first | refine blk_drewN ?_ _ | refine blk_drew ?_ | refine blk_alloc ?_ _)); refine blk_far ?_ NB424_437.out _; (with_reducible repeat (first | refine blk_drewN ?_ _ | refine blk_drew ?_ | refine blk_alloc ?_ _)); refine blk_far ?_ NB424_437.out _; (with_reducible repeat (first | refine blk_drewN ?_ _ | refine blk_drew ?_ | refine blk_alloc ?_ _)); refine blk_far ?_ NB424_437.out _; (with_reducible repeat (first | refine blk_drewN ?_ _ | refine blk_drew ?_ | refine blk_alloc ?_ _)); refine blk_far ?_ NB424_437.out _; (with_reducible repeat (first | refine blk_drewN ?_ _ | refine blk_drew ?_ | refine blk_alloc ?_ _)); exact BK424.out⟩
  have n12_ : Aside0 (((((((w44.setCell ⟨gb437, 0, none⟩ (.slice Ao45 t425.length co45)).setCell ⟨gb437, 1, none⟩ (.int .i64 t428)).setCell ⟨gb437, 2, none⟩ (.slice Ao50 t429.length co50)).setCell ⟨gb437, 3, none⟩ (.int .i64 t432)).setCell ⟨gb437, 4, none⟩ (.int .i64 t433)).setCell ⟨gb437, 5, none⟩ (.slice Ao51 t434.length co51)).heap[gb437]? = some (.cells #[.slice Ao45 t425.length co45, .int .i64 t428, .slice Ao50 t429.length co50, .int .i64 t432, .int .i64 t433, .slice Ao51 t434.length co51] 37 (0, 0))) := ⟨by (with_reducible repeat (first | refine blk_drewN ?_ _ | refine blk_drew ?_ | refine blk_alloc ?_ _)); refine blk_put (cs := #[.slice Ao45 t425.length co45, .int .i64 t428, .slice Ao50 t429.length co50, .int .i64 t432, .int .i64 t433, .slice none 0 0]) ?_ 5 _ rfl; (with_reducible repeat (first | refine blk_drewN ?_ _ | refine blk_drew ?_ | refine blk_alloc ?_ _)); refine blk_put (cs := #[.slice Ao45 t425.length co45, .int .i64 t428, .slice Ao50 t429.length co50, .int .i64 t432, .int .i64 0, .slice none 0 0]) ?_ 4 _ rfl; (with_reducible repeat (first | refine blk_drewN ?_ _ | refine blk_drew ?_ | refine blk_alloc ?_ _)); refine blk_put (cs := #[.slice Ao45 t425.length co45, .int .i64 t428, .slice Ao50 t429.length co50, .int .i64 0, .int .i64 0, .slice none 0 0]) ?_ 3 _ rfl; (with_reducible repeat (first | refine blk_drewN ?_ _ | refine blk_drew ?_ | refine blk_alloc ?_ _)); refine blk_put (cs := #[.slice Ao45 t425.length co45, .int .i64 t428, .slice none 0 0, .int .i64 0, .int .i64 0, .slice none 0 0]) ?_ 2 _ rfl; (with_reducible repeat (first | refine blk_drewN ?_ _ | refine blk_drew ?_ | refine blk_alloc ?_ _)); refine blk_put (cs := #[.slice Ao45 t425.length co45, .int .i64 0, .slice none 0 0, .int .i64 0, .int .i64 0, .slice none 0 0]) ?_ 1 _ rfl; (with_reducible repeat (first | refine blk_drewN ?_ _ | refine blk_drew ?_ | refine blk_alloc ?_ _)); refine blk_put (cs := #[.slice none 0 0, .int .i64 0, .slice none 0 0, .int .i64 0, .int .i64 0, .slice none 0 0]) ?_ 0 _ rfl; (with_reducible repeat (first | refine blk_drewN ?_ _ | refine blk_drew ?_ | refine blk_alloc ?_ _)); exact BK437.out⟩
  have n13_ : Aside0 (Below w.heap.size w ((((((w44.setCell ⟨gb437, 0, none⟩ (.slice Ao45 t425.length co45)).setCell ⟨gb437, 1, none⟩ (.int .i64 t428)).setCell ⟨gb437, 2, none⟩ (.slice Ao50 t429.length co50)).setCell ⟨gb437, 3, none⟩ (.int .i64 t432)).setCell ⟨gb437, 4, none⟩ (.int .i64 t433)).setCell ⟨gb437, 5, none⟩ (.slice Ao51 t434.length co51))) := ⟨BB⟩
  (try clear HO399)
  (try clear HO403)
  (try clear HO408)
  (try clear HO413)
  (try clear HO417)
  (try clear HO422)
  (try clear HO427)
  (try clear HO431)
  (try clear HO436)
  (try clear BK394)
  (try clear BK395)
  (try clear BK424)
  (try clear BK437)
  (try clear HB)
  generalize ((((((w44.setCell ⟨gb437, 0, none⟩ (.slice Ao45 t425.length co45)).setCell ⟨gb437, 1, none⟩ (.int .i64 t428)).setCell ⟨gb437, 2, none⟩ (.slice Ao50 t429.length co50)).setCell ⟨gb437, 3, none⟩ (.int .i64 t432)).setCell ⟨gb437, 4, none⟩ (.int .i64 t433)).setCell ⟨gb437, 5, none⟩ (.slice Ao51 t434.length co51)) = w52 at n0_ n1_ n2_ n3_ n4_ n5_ n6_ n7_ n8_ n9_ n10_ n11_ n12_ n13_ ⊢
  have HO399 := n0_
  have HO403 := n1_
  have HO408 := n2_
  have HO413 := n3_
  have HO417 := n4_
  have HO422 := n5_
  have HO427 := n6_
  have HO431 := n7_
  have HO436 := n8_
  have BK394 := n9_
  have BK395 := n10_
  have BK424 := n11_
  have BK437 := n12_
  have HB := n13_
  clear n0_ n1_ n2_ n3_ n4_ n5_ n6_ n7_ n8_ n9_ n10_ n11_ n12_ n13_
  replace HO399 := Aside0.mk (Kd.R_drew HO399.out)
  replace HO403 := Aside0.mk (Kd.R_drew HO403.out)
  replace HO408 := Aside0.mk (Kd.R_drew HO408.out)
  replace HO413 := Aside0.mk (Kd.R_drew HO413.out)
  replace HO417 := Aside0.mk (Kd.R_drew HO417.out)
  replace HO422 := Aside0.mk (Kd.R_drew HO422.out)
  replace HO427 := Aside0.mk (Kd.R_drew HO427.out)
  replace HO431 := Aside0.mk (Kd.R_drew HO431.out)
  replace HO436 := Aside0.mk (Kd.R_drew HO436.out)
  replace BK394 := Aside0.mk (blk_drew BK394.out)
  replace BK395 := Aside0.mk (blk_drew BK395.out)
  replace BK424 := Aside0.mk (blk_drew BK424.out)
  replace BK437 := Aside0.mk (blk_drew BK437.out)
  replace HB := Aside0.mk (below_drew1 HB.out)
  refine start_ (n := 11) (S := fun w' => w'.cell? ⟨gb437, 0, none⟩ = some (.slice Ao45 t425.length co45) ∧ w'.cell? ⟨gb437, 1, none⟩ = some (.int .i64 t428) ∧ w'.cell? ⟨gb437, 2, none⟩ = some (.slice Ao50 t429.length co50) ∧ w'.cell? ⟨gb437, 3, none⟩ = some (.int .i64 t432) ∧ w'.cell? ⟨gb437, 4, none⟩ = some (.int .i64 t433) ∧ w'.cell? ⟨gb437, 5, none⟩ = some (.slice Ao51 t434.length co51) ∧ w'.cell? ⟨gb395, 0, none⟩ = some (.int .i64 a1_0) ∧ w'.cell? ⟨gb395, 1, none⟩ = some (.int .i64 a1_1)) (ds := []) (Array.replicate 11 false) (by kernel_rfl) rfl rfl ⟨kZc BK437 0, kZc BK437 1, kZc BK437 2, kZc BK437 3, kZc BK437 4, kZc BK437 5, kZc BK395 0, kZc BK395 1⟩ (fun hHeld => ?_); refine with_tabW laws_FnExactShopFault.tab7 laws_FnExactShopFault.bits7 (fun HT_ HW_ => ?_)
  generalize w52.drew = w53 at HO399 HO403 HO408 HO413 HO417 HO422 HO427 HO431 HO436 BK394 BK395 BK424 BK437 HB hHeld ⊢
  refine pZu 3 38 HT_ (h := ?_)
  refine tZk 0 35 HT_ HW_ hHeld (h := ?_)
  refine tZk 1 36 HT_ HW_ hHeld (h := ?_)
  refine join_ (σ := Value × Value × Value × Nat) 2 #[true, true, true, true, true, true, true, true, true, false, false] (fun s_ => [(37, .agg #[.int .i64 t438, .int .i64 t439]), (39, .tuple #[.agg #[s_.1, .int .i64 t443, s_.2.1, .int .i64 t447, .int .i64 t448, s_.2.2.1], .bool t452]), (11, .pointer (some ⟨s_.2.2.2, 0, none⟩)), (34, .tuple #[.agg #[s_.1, .int .i64 t443, s_.2.1, .int .i64 t447, .int .i64 t448, s_.2.2.1], .bool t452]), (40, .agg #[s_.1, .int .i64 t443, s_.2.1, .int .i64 t447, .int .i64 t448, s_.2.2.1]), (41, .bool t452)]) (fun s_ w' => (w'.cell? ⟨gb437, 0, none⟩ = some (.slice Ao45 t425.length co45) ∧ w'.cell? ⟨gb437, 1, none⟩ = some (.int .i64 t428) ∧ w'.cell? ⟨gb437, 2, none⟩ = some (.slice Ao50 t429.length co50) ∧ w'.cell? ⟨gb437, 3, none⟩ = some (.int .i64 t432) ∧ w'.cell? ⟨gb437, 4, none⟩ = some (.int .i64 t433) ∧ w'.cell? ⟨gb437, 5, none⟩ = some (.slice Ao51 t434.length co51) ∧ w'.cell? ⟨gb395, 0, none⟩ = some (.int .i64 a1_0) ∧ w'.cell? ⟨gb395, 1, none⟩ = some (.int .i64 a1_1)) ∧ (Kd.R k100 100 w' w.heap.size (fun k_ => some k_ ≠ (.slice Ao32 t411.length co32 : Value).ownBlock ∧ some k_ ≠ (.slice Ao45 t425.length co45 : Value).ownBlock ∧ some k_ ≠ (s_.1 : Value).ownBlock) v398 t397) ∧ (Kd.R (Kd.int .i64) 3 w' w.heap.size (fun k_ => some k_ ≠ (.slice Ao35 t415.length co35 : Value).ownBlock ∧ some k_ ≠ (.slice Ao50 t429.length co50 : Value).ownBlock ∧ some k_ ≠ (s_.2.1 : Value).ownBlock) v402 t401) ∧ (Kd.R k61 61 w' w.heap.size (fun k_ => some k_ ≠ (.slice Ao39 t420.length co39 : Value).ownBlock ∧ some k_ ≠ (.slice Ao51 t434.length co51 : Value).ownBlock ∧ some k_ ≠ (s_.2.2.1 : Value).ownBlock) v407 t406) ∧ (Kd.R k100 100 w' w.heap.size (fun k_ => some k_ ≠ (v398 : Value).ownBlock ∧ some k_ ≠ (.slice Ao45 t425.length co45 : Value).ownBlock ∧ some k_ ≠ (s_.1 : Value).ownBlock) (.slice Ao32 t411.length co32) t411) ∧ (Kd.R (Kd.int .i64) 3 w' w.heap.size (fun k_ => some k_ ≠ (v402 : Value).ownBlock ∧ some k_ ≠ (.slice Ao50 t429.length co50 : Value).ownBlock ∧ some k_ ≠ (s_.2.1 : Value).ownBlock) (.slice Ao35 t415.length co35) t415) ∧ (Kd.R k61 61 w' w.heap.size (fun k_ => some k_ ≠ (v407 : Value).ownBlock ∧ some k_ ≠ (.slice Ao51 t434.length co51 : Value).ownBlock ∧ some k_ ≠ (s_.2.2.1 : Value).ownBlock) (.slice Ao39 t420.length co39) t420) ∧ (Kd.R k100 100 w' w.heap.size (fun k_ => some k_ ≠ (v398 : Value).ownBlock ∧ some k_ ≠ (.slice Ao32 t411.length co32 : Value).ownBlock ∧ some k_ ≠ (s_.1 : Value).ownBlock) (.slice Ao45 t425.length co45) t425) ∧ (Kd.R (Kd.int .i64) 3 w' w.heap.size (fun k_ => some k_ ≠ (v402 : Value).ownBlock ∧ some k_ ≠ (.slice Ao35 t415.length co35 : Value).ownBlock ∧ some k_ ≠ (s_.2.1 : Value).ownBlock) (.slice Ao50 t429.length co50) t429) ∧ (Kd.R k61 61 w' w.heap.size (fun k_ => some k_ ≠ (v407 : Value).ownBlock ∧ some k_ ≠ (.slice Ao39 t420.length co39 : Value).ownBlock ∧ some k_ ≠ (s_.2.2.1 : Value).ownBlock) (.slice Ao51 t434.length co51) t434) ∧ (Kd.R k100 100 w' w.heap.size (fun k_ => some k_ ≠ (v398 : Value).ownBlock ∧ some k_ ≠ (.slice Ao32 t411.length co32 : Value).ownBlock ∧ some k_ ≠ (.slice Ao45 t425.length co45 : Value).ownBlock) s_.1 t440) ∧ (Kd.R (Kd.int .i64) 3 w' w.heap.size (fun k_ => some k_ ≠ (v402 : Value).ownBlock ∧ some k_ ≠ (.slice Ao35 t415.length co35 : Value).ownBlock ∧ some k_ ≠ (.slice Ao50 t429.length co50 : Value).ownBlock) s_.2.1 t444) ∧ (Kd.R k61 61 w' w.heap.size (fun k_ => some k_ ≠ (v407 : Value).ownBlock ∧ some k_ ≠ (.slice Ao39 t420.length co39 : Value).ownBlock ∧ some k_ ≠ (.slice Ao51 t434.length co51 : Value).ownBlock) s_.2.2.1 t449) ∧ (w'.heap[gb394]? = some (.cells #[.slice A0_0 l0_0.length c0_0, .int .i64 a0_1, .slice A0_2 l0_2.length c0_2, .int .i64 a0_3, .int .i64 a0_4, .slice A0_5 l0_5.length c0_5] 28 (0, 0))) ∧ (w'.heap[gb395]? = some (.cells #[.int .i64 a1_0, .int .i64 a1_1] 30 (0, 0))) ∧ (w'.heap[gb424]? = some (.cells #[.slice Ao32 t411.length co32, .int .i64 t414, .slice Ao35 t415.length co35, .int .i64 t418, .int .i64 t419, .slice Ao39 t420.length co39] 37 (0, 0))) ∧ (w'.heap[gb437]? = some (.cells #[.slice Ao45 t425.length co45, .int .i64 t428, .slice Ao50 t429.length co50, .int .i64 t432, .int .i64 t433, .slice Ao51 t434.length co51] 37 (0, 0))) ∧ (w'.heap[s_.2.2.2]? = some (.cells #[.slice none 0 0, .int .i64 0, .slice none 0 0, .int .i64 0, .int .i64 0, .slice none 0 0] 37 (0, 0))) ∧ (w.heap.size ≤ s_.2.2.2) ∧ (w.heap.size ≤ s_.2.2.2) ∧ (gb394 ≠ s_.2.2.2) ∧ (s_.2.2.2 ≠ gb394) ∧ (gb395 ≠ s_.2.2.2) ∧ (s_.2.2.2 ≠ gb395) ∧ (gb424 ≠ s_.2.2.2) ∧ (s_.2.2.2 ≠ gb424) ∧ (gb437 ≠ s_.2.2.2) ∧ (s_.2.2.2 ≠ gb437) ∧ (Below w.heap.size w w')) ?_ ?_
  rotate_left
  ·intro hCont
   refine two_ (i := 2) (j := 8) (Ni := some 37) (Nj := some 11) #[true, true, true, true, false, false, false, false, false, false, false] #[true, true, false, true, false, false, false, false, true, false, false] rfl rfl rfl rfl (two_of HT_.out (by kernel_rfl)) (by decide) (by decide) (fun K hK => ?_) (fun K hK => ?_)
   ·skip
    refine goes_ Try.func8 (by kernel_rfl) rfl #[.agg #[.int .i64 a1_0, .int .i64 a1_1]] (by rfl) rfl rfl MP ?_
    with_reducible refine (laws_toPipe.calls a1_0 a1_1 t438 t439 _ A15.out).mono ?_
    rintro e w54 ⟨rfl, hb⟩
    refine ⟨_, rfl, ?_⟩
    replace HO399 := rbB HO399 hb
    replace HO403 := rbB HO403 hb
    replace HO408 := rbB HO408 hb
    replace HO413 := rbB HO413 hb
    replace HO417 := rbB HO417 hb
    replace HO422 := rbB HO422 hb
    replace HO427 := rbB HO427 hb
    replace HO431 := rbB HO431 hb
    replace HO436 := rbB HO436 hb
    replace BK394 := kbB BK394 hb
    replace BK395 := kbB BK395 hb
    replace BK424 := kbB BK424 hb
    replace BK437 := kbB BK437 hb
    replace HB := bbB hb
    (try clear hb)
    refine hK.out _ _ ⟨kZc BK437 0, kZc BK437 1, kZc BK437 2, kZc BK437 3, kZc BK437 4, kZc BK437 5, kZc BK395 0, kZc BK395 1⟩ (fun hHeld => ?_)
    clear hK K
    refine nZm (h := ?_)
    refine two_ (i := 4) (j := 8) (Ni := some 39) (Nj := some 11) #[true, true, true, true, true, false, false, false, false, false, false] #[true, true, true, true, false, false, false, false, true, false, false] rfl rfl rfl rfl (two_of HT_.out (by kernel_rfl)) (by decide) (by decide) (fun K hK => ?_) (fun K hK => ?_)
    ·skip
     refine goes_ Try.func9 (by kernel_rfl) rfl #[.agg #[.slice Ao45 t425.length co45, .int .i64 t428, .slice Ao50 t429.length co50, .int .i64 t432, .int .i64 t433, .slice Ao51 t434.length co51], .agg #[.int .i64 t438, .int .i64 t439], .int .i64 a2] (by rfl) rfl rfl MP ?_
     with_reducible refine (impl_ShopFault.calls _ _ t425 t428 _ _ t429 t432 t433 _ _ t434 t438 t439 a2 t440 t443 t444 t447 t448 t449 t452 _ ?side1 ?side2 ?side3 ?side4 ?side5 ?side6 A16.out).mono ?_
     (case side1 => exact rdC HO427)
     (case side2 => exact (rd1 HO427))
     (case side3 => exact rdC HO431)
     (case side4 => exact (rd1 HO431))
     (case side5 => exact rdC HO436)
     (case side6 => exact (rd1 HO436))
     rintro e w55 ⟨v441, v445, v450, rfl, ho0, ho1, ho2, hb⟩
     refine ⟨_, rfl, ?_⟩
     have HO442 := Aside0.mk (Kd.R_lower (Kd.R_new' (Kd.R_new' (Kd.R_new' ho0 (Kd.R_lt (rZr HO399))) (Kd.R_lt (rZr HO413))) (Kd.R_lt (rZr HO427))) (below_size BB))
     replace HO399 := reB HO399 ho0 hb
     replace HO413 := reB HO413 ho0 hb
     replace HO427 := reB HO427 ho0 hb
     have HO446 := Aside0.mk (Kd.R_lower (Kd.R_new' (Kd.R_new' (Kd.R_new' ho1 (Kd.R_lt (rZr HO403))) (Kd.R_lt (rZr HO417))) (Kd.R_lt (rZr HO431))) (below_size BB))
     replace HO403 := reB HO403 ho1 hb
     replace HO417 := reB HO417 ho1 hb
     replace HO431 := reB HO431 ho1 hb
     have HO451 := Aside0.mk (Kd.R_lower (Kd.R_new' (Kd.R_new' (Kd.R_new' ho2 (Kd.R_lt (rZr HO408))) (Kd.R_lt (rZr HO422))) (Kd.R_lt (rZr HO436))) (below_size BB))
     replace HO408 := reB HO408 ho2 hb
     replace HO422 := reB HO422 ho2 hb
     replace HO436 := reB HO436 ho2 hb
     replace BK394 := kbB BK394 hb
     replace BK395 := kbB BK395 hb
     replace BK424 := kbB BK424 hb
     replace BK437 := kbB BK437 hb
     replace HB := bbB hb
     (try clear hb)
     (try clear ho0)
     (try clear ho1)
     (try clear ho2)
     refine hK.out _ _ ⟨kZc BK437 0, kZc BK437 1, kZc BK437 2, kZc BK437 3, kZc BK437 4, kZc BK437 5, kZc BK395 0, kZc BK395 1⟩ (fun hHeld => ?_)
     clear hK K
     refine nZm (h := ?_)
     refine pZu 5 34 HT_ (h := ?_)
     refine pZu 6 40 HT_ (h := ?_)
     refine pZu 7 41 HT_ (h := ?_)
     refine oZn 8 (some 11) HT_ (h := fun K hK => ?_)
     refine box_step ?hg (N := 11) ?hd (cs := #[.slice none 0 0, .int .i64 0, .slice none 0 0, .int .i64 0, .int .i64 0, .slice none 0 0]) (t := 37) ?hr ?_; (case hd => rfl); (case hg => rfl); (case hr => exact GR)
     intro gb453 hg w56 hbox hb
     replace HO399 := rbB HO399 hb
     replace HO403 := rbB HO403 hb
     replace HO408 := rbB HO408 hb
     replace HO413 := rbB HO413 hb
     replace HO417 := rbB HO417 hb
     replace HO422 := rbB HO422 hb
     replace HO427 := rbB HO427 hb
     replace HO431 := rbB HO431 hb
     replace HO436 := rbB HO436 hb
     replace HO442 := rbB HO442 hb
     replace HO446 := rbB HO446 hb
     replace HO451 := rbB HO451 hb
     have BK453 := Aside0.mk (hbox)
     have GW453 := szB hg
     have GE453 := szB hg
     replace HB := bbB hb
     have NB394_453 := nlB BK394 hg
     have NB453_394 := ngB BK394 hg
     replace BK394 := kbB BK394 hb
     have NB395_453 := nlB BK395 hg
     have NB453_395 := ngB BK395 hg
     replace BK395 := kbB BK395 hb
     have NB424_453 := nlB BK424 hg
     have NB453_424 := ngB BK424 hg
     replace BK424 := kbB BK424 hb
     have NB437_453 := nlB BK437 hg
     have NB453_437 := ngB BK437 hg
     replace BK437 := kbB BK437 hb
     clear hb hbox hg
     refine hK.out _ _ ⟨kZc BK437 0, kZc BK437 1, kZc BK437 2, kZc BK437 3, kZc BK437 4, kZc BK437 5, kZc BK395 0, kZc BK395 1⟩ (fun hHeld => ?_)
     clear hK K
     refine nZm (h := ?_)
     exact nR (hCont (v441, v445, v450, gb453) _ ⟨hHeld, (rM HO399 (fun _ hk => ⟨hk.1.1, ⟨hk.1.2, hk.2⟩⟩)), (rM HO403 (fun _ hk => ⟨hk.1.1, ⟨hk.1.2, hk.2⟩⟩)), (rM HO408 (fun _ hk => ⟨hk.1.1, ⟨hk.1.2, hk.2⟩⟩)), (rM HO413 (fun _ hk => ⟨hk.1.1, ⟨hk.1.2, hk.2⟩⟩)), (rM HO417 (fun _ hk => ⟨hk.1.1, ⟨hk.1.2, hk.2⟩⟩)), (rM HO422 (fun _ hk => ⟨hk.1.1, ⟨hk.1.2, hk.2⟩⟩)), (rM HO427 (fun _ hk => ⟨hk.1.1, ⟨hk.1.2, hk.2⟩⟩)), (rM HO431 (fun _ hk => ⟨hk.1.1, ⟨hk.1.2, hk.2⟩⟩)), (rM HO436 (fun _ hk => ⟨hk.1.1, ⟨hk.1.2, hk.2⟩⟩)), (rM HO442 (fun _ hk => ⟨hk.1.1.2, ⟨hk.1.2, hk.2⟩⟩)), (rM HO446 (fun _ hk => ⟨hk.1.1.2, ⟨hk.1.2, hk.2⟩⟩)), (rM HO451 (fun _ hk => ⟨hk.1.1.2, ⟨hk.1.2, hk.2⟩⟩)), (kZb BK394), (kZb BK395), (kZb BK424), (kZb BK437), (kZb BK453), GW453.out, GE453.out, NB394_453.out, NB453_394.out, NB395_453.out, NB453_395.out, NB424_453.out, NB453_424.out, NB437_453.out, NB453_437.out, BB⟩)
    ·skip
     refine box_step ?hg (N := 11) ?hd (cs := #[.slice none 0 0, .int .i64 0, .slice none 0 0, .int .i64 0, .int .i64 0, .slice none 0 0]) (t := 37) ?hr ?_; (case hd => rfl); (case hg => rfl); (case hr => exact GR)
     intro gb453 hg w55 hbox hb
     replace HO399 := rbB HO399 hb
     replace HO403 := rbB HO403 hb
     replace HO408 := rbB HO408 hb
     replace HO413 := rbB HO413 hb
     replace HO417 := rbB HO417 hb
     replace HO422 := rbB HO422 hb
     replace HO427 := rbB HO427 hb
     replace HO431 := rbB HO431 hb
     replace HO436 := rbB HO436 hb
     have BK453 := Aside0.mk (hbox)
     have GW453 := szB hg
     have GE453 := szB hg
     replace HB := bbB hb
     have NB394_453 := nlB BK394 hg
     have NB453_394 := ngB BK394 hg
     replace BK394 := kbB BK394 hb
     have NB395_453 := nlB BK395 hg
     have NB453_395 := ngB BK395 hg
     replace BK395 := kbB BK395 hb
     have NB424_453 := nlB BK424 hg
     have NB453_424 := ngB BK424 hg
     replace BK424 := kbB BK424 hb
     have NB437_453 := nlB BK437 hg
     have NB453_437 := ngB BK437 hg
     replace BK437 := kbB BK437 hb
     clear hb hbox hg
     refine hK.out _ _ ⟨kZc BK437 0, kZc BK437 1, kZc BK437 2, kZc BK437 3, kZc BK437 4, kZc BK437 5, kZc BK395 0, kZc BK395 1⟩ (fun hHeld => ?_)
     clear hK K
     refine nZm (h := ?_)
     refine oZn 4 (some 39) HT_ (h := fun K hK => ?_)
     refine goes_ Try.func9 (by kernel_rfl) rfl #[.agg #[.slice Ao45 t425.length co45, .int .i64 t428, .slice Ao50 t429.length co50, .int .i64 t432, .int .i64 t433, .slice Ao51 t434.length co51], .agg #[.int .i64 t438, .int .i64 t439], .int .i64 a2] (by rfl) rfl rfl MP ?_
     with_reducible refine (impl_ShopFault.calls _ _ t425 t428 _ _ t429 t432 t433 _ _ t434 t438 t439 a2 t440 t443 t444 t447 t448 t449 t452 _ ?side1 ?side2 ?side3 ?side4 ?side5 ?side6 A16.out).mono ?_
     (case side1 => exact rdC HO427)
     (case side2 => exact (rd1 HO427))
     (case side3 => exact rdC HO431)
     (case side4 => exact (rd1 HO431))
     (case side5 => exact rdC HO436)
     (case side6 => exact (rd1 HO436))
     rintro e w56 ⟨v441, v445, v450, rfl, ho0, ho1, ho2, hb⟩
     refine ⟨_, rfl, ?_⟩
     have HO442 := Aside0.mk (Kd.R_lower (Kd.R_new' (Kd.R_new' (Kd.R_new' ho0 (Kd.R_lt (rZr HO399))) (Kd.R_lt (rZr HO413))) (Kd.R_lt (rZr HO427))) (below_size BB))
     replace HO399 := reB HO399 ho0 hb
     replace HO413 := reB HO413 ho0 hb
     replace HO427 := reB HO427 ho0 hb
     have HO446 := Aside0.mk (Kd.R_lower (Kd.R_new' (Kd.R_new' (Kd.R_new' ho1 (Kd.R_lt (rZr HO403))) (Kd.R_lt (rZr HO417))) (Kd.R_lt (rZr HO431))) (below_size BB))
     replace HO403 := reB HO403 ho1 hb
     replace HO417 := reB HO417 ho1 hb
     replace HO431 := reB HO431 ho1 hb
     have HO451 := Aside0.mk (Kd.R_lower (Kd.R_new' (Kd.R_new' (Kd.R_new' ho2 (Kd.R_lt (rZr HO408))) (Kd.R_lt (rZr HO422))) (Kd.R_lt (rZr HO436))) (below_size BB))
     replace HO408 := reB HO408 ho2 hb
     replace HO422 := reB HO422 ho2 hb
     replace HO436 := reB HO436 ho2 hb
     replace BK394 := kbB BK394 hb
     replace BK395 := kbB BK395 hb
     replace BK424 := kbB BK424 hb
     replace BK437 := kbB BK437 hb
     replace BK453 := kbB BK453 hb
     replace HB := bbB hb
     (try clear hb)
     (try clear ho0)
     (try clear ho1)
     (try clear ho2)
     refine hK.out _ _ ⟨kZc BK437 0, kZc BK437 1, kZc BK437 2, kZc BK437 3, kZc BK437 4, kZc BK437 5, kZc BK395 0, kZc BK395 1⟩ (fun hHeld => ?_)
     clear hK K
     refine nZm (h := ?_)
     refine pZu 5 34 HT_ (h := ?_)
     refine pZu 6 40 HT_ (h := ?_)
     refine pZu 7 41 HT_ (h := ?_)
     exact nR (hCont (v441, v445, v450, gb453) _ ⟨hHeld, (rM HO399 (fun _ hk => ⟨hk.1.1, ⟨hk.1.2, hk.2⟩⟩)), (rM HO403 (fun _ hk => ⟨hk.1.1, ⟨hk.1.2, hk.2⟩⟩)), (rM HO408 (fun _ hk => ⟨hk.1.1, ⟨hk.1.2, hk.2⟩⟩)), (rM HO413 (fun _ hk => ⟨hk.1.1, ⟨hk.1.2, hk.2⟩⟩)), (rM HO417 (fun _ hk => ⟨hk.1.1, ⟨hk.1.2, hk.2⟩⟩)), (rM HO422 (fun _ hk => ⟨hk.1.1, ⟨hk.1.2, hk.2⟩⟩)), (rM HO427 (fun _ hk => ⟨hk.1.1, ⟨hk.1.2, hk.2⟩⟩)), (rM HO431 (fun _ hk => ⟨hk.1.1, ⟨hk.1.2, hk.2⟩⟩)), (rM HO436 (fun _ hk => ⟨hk.1.1, ⟨hk.1.2, hk.2⟩⟩)), (rM HO442 (fun _ hk => ⟨hk.1.1.2, ⟨hk.1.2, hk.2⟩⟩)), (rM HO446 (fun _ hk => ⟨hk.1.1.2, ⟨hk.1.2, hk.2⟩⟩)), (rM HO451 (fun _ hk => ⟨hk.1.1.2, ⟨hk.1.2, hk.2⟩⟩)), (kZb BK394), (kZb BK395), (kZb BK424), (kZb BK437), (kZb BK453), GW453.out, GE453.out, NB394_453.out, NB453_394.out, NB395_453.out, NB453_395.out, NB424_453.out, NB453_424.out, NB437_453.out, NB453_437.out, BB⟩)
   ·skip
    refine box_step ?hg (N := 11) ?hd (cs := #[.slice none 0 0, .int .i64 0, .slice none 0 0, .int .i64 0, .int .i64 0, .slice none 0 0]) (t := 37) ?hr ?_; (case hd => rfl); (case hg => rfl); (case hr => exact GR)
    intro gb453 hg w54 hbox hb
    replace HO399 := rbB HO399 hb
    replace HO403 := rbB HO403 hb
    replace HO408 := rbB HO408 hb
    replace HO413 := rbB HO413 hb
    replace HO417 := rbB HO417 hb
    replace HO422 := rbB HO422 hb
    replace HO427 := rbB HO427 hb
    replace HO431 := rbB HO431 hb
    replace HO436 := rbB HO436 hb
    have BK453 := Aside0.mk (hbox)
    have GW453 := szB hg
    have GE453 := szB hg
    replace HB := bbB hb
    have NB394_453 := nlB BK394 hg
    have NB453_394 := ngB BK394 hg
    replace BK394 := kbB BK394 hb
    have NB395_453 := nlB BK395 hg
    have NB453_395 := ngB BK395 hg
    replace BK395 := kbB BK395 hb
    have NB424_453 := nlB BK424 hg
    have NB453_424 := ngB BK424 hg
    replace BK424 := kbB BK424 hb
    have NB437_453 := nlB BK437 hg
    have NB453_437 := ngB BK437 hg
    replace BK437 := kbB BK437 hb
    clear hb hbox hg
    refine hK.out _ _ ⟨kZc BK437 0, kZc BK437 1, kZc BK437 2, kZc BK437 3, kZc BK437 4, kZc BK437 5, kZc BK395 0, kZc BK395 1⟩ (fun hHeld => ?_)
    clear hK K
    refine nZm (h := ?_)
    refine oZn 2 (some 37) HT_ (h := fun K hK => ?_)
    refine goes_ Try.func8 (by kernel_rfl) rfl #[.agg #[.int .i64 a1_0, .int .i64 a1_1]] (by rfl) rfl rfl MP ?_
    with_reducible refine (laws_toPipe.calls a1_0 a1_1 t438 t439 _ A15.out).mono ?_
    rintro e w55 ⟨rfl, hb⟩
    refine ⟨_, rfl, ?_⟩
    replace HO399 := rbB HO399 hb
    replace HO403 := rbB HO403 hb
    replace HO408 := rbB HO408 hb
    replace HO413 := rbB HO413 hb
    replace HO417 := rbB HO417 hb
    replace HO422 := rbB HO422 hb
    replace HO427 := rbB HO427 hb
    replace HO431 := rbB HO431 hb
    replace HO436 := rbB HO436 hb
    replace BK394 := kbB BK394 hb
    replace BK395 := kbB BK395 hb
    replace BK424 := kbB BK424 hb
    replace BK437 := kbB BK437 hb
    replace BK453 := kbB BK453 hb
    replace HB := bbB hb
    (try clear hb)
    refine hK.out _ _ ⟨kZc BK437 0, kZc BK437 1, kZc BK437 2, kZc BK437 3, kZc BK437 4, kZc BK437 5, kZc BK395 0, kZc BK395 1⟩ (fun hHeld => ?_)
    clear hK K
    refine nZm (h := ?_)
    refine oZn 4 (some 39) HT_ (h := fun K hK => ?_)
    refine goes_ Try.func9 (by kernel_rfl) rfl #[.agg #[.slice Ao45 t425.length co45, .int .i64 t428, .slice Ao50 t429.length co50, .int .i64 t432, .int .i64 t433, .slice Ao51 t434.length co51], .agg #[.int .i64 t438, .int .i64 t439], .int .i64 a2] (by rfl) rfl rfl MP ?_
    with_reducible refine (impl_ShopFault.calls _ _ t425 t428 _ _ t429 t432 t433 _ _ t434 t438 t439 a2 t440 t443 t444 t447 t448 t449 t452 _ ?side1 ?side2 ?side3 ?side4 ?side5 ?side6 A16.out).mono ?_
    (case side1 => exact rdC HO427)
    (case side2 => exact (rd1 HO427))
    (case side3 => exact rdC HO431)
    (case side4 => exact (rd1 HO431))
    (case side5 => exact rdC HO436)
    (case side6 => exact (rd1 HO436))
    rintro e w56 ⟨v441, v445, v450, rfl, ho0, ho1, ho2, hb⟩
    refine ⟨_, rfl, ?_⟩
    have HO442 := Aside0.mk (Kd.R_lower (Kd.R_new' (Kd.R_new' (Kd.R_new' ho0 (Kd.R_lt (rZr HO399))) (Kd.R_lt (rZr HO413))) (Kd.R_lt (rZr HO427))) (below_size BB))
    replace HO399 := reB HO399 ho0 hb
    replace HO413 := reB HO413 ho0 hb
    replace HO427 := reB HO427 ho0 hb
    have HO446 := Aside0.mk (Kd.R_lower (Kd.R_new' (Kd.R_new' (Kd.R_new' ho1 (Kd.R_lt (rZr HO403))) (Kd.R_lt (rZr HO417))) (Kd.R_lt (rZr HO431))) (below_size BB))
    replace HO403 := reB HO403 ho1 hb
    replace HO417 := reB HO417 ho1 hb
    replace HO431 := reB HO431 ho1 hb
    have HO451 := Aside0.mk (Kd.R_lower (Kd.R_new' (Kd.R_new' (Kd.R_new' ho2 (Kd.R_lt (rZr HO408))) (Kd.R_lt (rZr HO422))) (Kd.R_lt (rZr HO436))) (below_size BB))
    replace HO408 := reB HO408 ho2 hb
    replace HO422 := reB HO422 ho2 hb
    replace HO436 := reB HO436 ho2 hb
    replace BK394 := kbB BK394 hb
    replace BK395 := kbB BK395 hb
    replace BK424 := kbB BK424 hb
    replace BK437 := kbB BK437 hb
    replace BK453 := kbB BK453 hb
    replace HB := bbB hb
    (try clear hb)
    (try clear ho0)
    (try clear ho1)
    (try clear ho2)
    refine hK.out _ _ ⟨kZc BK437 0, kZc BK437 1, kZc BK437 2, kZc BK437 3, kZc BK437 4, kZc BK437 5, kZc BK395 0, kZc BK395 1⟩ (fun hHeld => ?_)
    clear hK K
    refine nZm (h := ?_)
    refine pZu 5 34 HT_ (h := ?_)
    refine pZu 6 40 HT_ (h := ?_)
    refine pZu 7 41 HT_ (h := ?_)
    exact nR (hCont (v441, v445, v450, gb453) _ ⟨hHeld, (rM HO399 (fun _ hk => ⟨hk.1.1, ⟨hk.1.2, hk.2⟩⟩)), (rM HO403 (fun _ hk => ⟨hk.1.1, ⟨hk.1.2, hk.2⟩⟩)), (rM HO408 (fun _ hk => ⟨hk.1.1, ⟨hk.1.2, hk.2⟩⟩)), (rM HO413 (fun _ hk => ⟨hk.1.1, ⟨hk.1.2, hk.2⟩⟩)), (rM HO417 (fun _ hk => ⟨hk.1.1, ⟨hk.1.2, hk.2⟩⟩)), (rM HO422 (fun _ hk => ⟨hk.1.1, ⟨hk.1.2, hk.2⟩⟩)), (rM HO427 (fun _ hk => ⟨hk.1.1, ⟨hk.1.2, hk.2⟩⟩)), (rM HO431 (fun _ hk => ⟨hk.1.1, ⟨hk.1.2, hk.2⟩⟩)), (rM HO436 (fun _ hk => ⟨hk.1.1, ⟨hk.1.2, hk.2⟩⟩)), (rM HO442 (fun _ hk => ⟨hk.1.1.2, ⟨hk.1.2, hk.2⟩⟩)), (rM HO446 (fun _ hk => ⟨hk.1.1.2, ⟨hk.1.2, hk.2⟩⟩)), (rM HO451 (fun _ hk => ⟨hk.1.1.2, ⟨hk.1.2, hk.2⟩⟩)), (kZb BK394), (kZb BK395), (kZb BK424), (kZb BK437), (kZb BK453), GW453.out, GE453.out, NB394_453.out, NB453_394.out, NB395_453.out, NB453_395.out, NB424_453.out, NB453_424.out, NB437_453.out, NB453_437.out, BB⟩)
  rintro ⟨v441, v445, v450, gb453⟩ w57 ⟨hS_, h0_, h1_, h2_, h3_, h4_, h5_, h6_, h7_, h8_, h9_, h10_, h11_, h12_, h13_, h14_, h15_, h16_, h17_, h18_, h19_, h20_, h21_, h22_, h23_, h24_, h25_, h26_, h27_⟩
  have n0_ : Aside0 (Kd.R k100 100 w57 w.heap.size (fun k_ => some k_ ≠ (.slice Ao32 t411.length co32 : Value).ownBlock ∧ some k_ ≠ (.slice Ao45 t425.length co45 : Value).ownBlock ∧ some k_ ≠ (v441 : Value).ownBlock) v398 t397) := ⟨h0_⟩
  have n1_ : Aside0 (Kd.R (Kd.int .i64) 3 w57 w.heap.size (fun k_ => some k_ ≠ (.slice Ao35 t415.length co35 : Value).ownBlock ∧ some k_ ≠ (.slice Ao50 t429.length co50 : Value).ownBlock ∧ some k_ ≠ (v445 : Value).ownBlock) v402 t401) := ⟨h1_⟩
  have n2_ : Aside0 (Kd.R k61 61 w57 w.heap.size (fun k_ => some k_ ≠ (.slice Ao39 t420.length co39 : Value).ownBlock ∧ some k_ ≠ (.slice Ao51 t434.length co51 : Value).ownBlock ∧ some k_ ≠ (v450 : Value).ownBlock) v407 t406) := ⟨h2_⟩
  have n3_ : Aside0 (Kd.R k100 100 w57 w.heap.size (fun k_ => some k_ ≠ (v398 : Value).ownBlock ∧ some k_ ≠ (.slice Ao45 t425.length co45 : Value).ownBlock ∧ some k_ ≠ (v441 : Value).ownBlock) (.slice Ao32 t411.length co32) t411) := ⟨h3_⟩
  have n4_ : Aside0 (Kd.R (Kd.int .i64) 3 w57 w.heap.size (fun k_ => some k_ ≠ (v402 : Value).ownBlock ∧ some k_ ≠ (.slice Ao50 t429.length co50 : Value).ownBlock ∧ some k_ ≠ (v445 : Value).ownBlock) (.slice Ao35 t415.length co35) t415) := ⟨h4_⟩
  have n5_ : Aside0 (Kd.R k61 61 w57 w.heap.size (fun k_ => some k_ ≠ (v407 : Value).ownBlock ∧ some k_ ≠ (.slice Ao51 t434.length co51 : Value).ownBlock ∧ some k_ ≠ (v450 : Value).ownBlock) (.slice Ao39 t420.length co39) t420) := ⟨h5_⟩
  have n6_ : Aside0 (Kd.R k100 100 w57 w.heap.size (fun k_ => some k_ ≠ (v398 : Value).ownBlock ∧ some k_ ≠ (.slice Ao32 t411.length co32 : Value).ownBlock ∧ some k_ ≠ (v441 : Value).ownBlock) (.slice Ao45 t425.length co45) t425) := ⟨h6_⟩
  have n7_ : Aside0 (Kd.R (Kd.int .i64) 3 w57 w.heap.size (fun k_ => some k_ ≠ (v402 : Value).ownBlock ∧ some k_ ≠ (.slice Ao35 t415.length co35 : Value).ownBlock ∧ some k_ ≠ (v445 : Value).ownBlock) (.slice Ao50 t429.length co50) t429) := ⟨h7_⟩
  have n8_ : Aside0 (Kd.R k61 61 w57 w.heap.size (fun k_ => some k_ ≠ (v407 : Value).ownBlock ∧ some k_ ≠ (.slice Ao39 t420.length co39 : Value).ownBlock ∧ some k_ ≠ (v450 : Value).ownBlock) (.slice Ao51 t434.length co51) t434) := ⟨h8_⟩
  have n9_ : Aside0 (Kd.R k100 100 w57 w.heap.size (fun k_ => some k_ ≠ (v398 : Value).ownBlock ∧ some k_ ≠ (.slice Ao32 t411.length co32 : Value).ownBlock ∧ some k_ ≠ (.slice Ao45 t425.length co45 : Value).ownBlock) v441 t440) := ⟨h9_⟩
  have n10_ : Aside0 (Kd.R (Kd.int .i64) 3 w57 w.heap.size (fun k_ => some k_ ≠ (v402 : Value).ownBlock ∧ some k_ ≠ (.slice Ao35 t415.length co35 : Value).ownBlock ∧ some k_ ≠ (.slice Ao50 t429.length co50 : Value).ownBlock) v445 t444) := ⟨h10_⟩
  have n11_ : Aside0 (Kd.R k61 61 w57 w.heap.size (fun k_ => some k_ ≠ (v407 : Value).ownBlock ∧ some k_ ≠ (.slice Ao39 t420.length co39 : Value).ownBlock ∧ some k_ ≠ (.slice Ao51 t434.length co51 : Value).ownBlock) v450 t449) := ⟨h11_⟩
  have n12_ : Aside0 (w57.heap[gb394]? = some (.cells #[.slice A0_0 l0_0.length c0_0, .int .i64 a0_1, .slice A0_2 l0_2.length c0_2, .int .i64 a0_3, .int .i64 a0_4, .slice A0_5 l0_5.length c0_5] 28 (0, 0))) := ⟨h12_⟩
  have n13_ : Aside0 (w57.heap[gb395]? = some (.cells #[.int .i64 a1_0, .int .i64 a1_1] 30 (0, 0))) := ⟨h13_⟩
  have n14_ : Aside0 (w57.heap[gb424]? = some (.cells #[.slice Ao32 t411.length co32, .int .i64 t414, .slice Ao35 t415.length co35, .int .i64 t418, .int .i64 t419, .slice Ao39 t420.length co39] 37 (0, 0))) := ⟨h14_⟩
  have n15_ : Aside0 (w57.heap[gb437]? = some (.cells #[.slice Ao45 t425.length co45, .int .i64 t428, .slice Ao50 t429.length co50, .int .i64 t432, .int .i64 t433, .slice Ao51 t434.length co51] 37 (0, 0))) := ⟨h15_⟩
  have n16_ : Aside0 (w57.heap[gb453]? = some (.cells #[.slice none 0 0, .int .i64 0, .slice none 0 0, .int .i64 0, .int .i64 0, .slice none 0 0] 37 (0, 0))) := ⟨h16_⟩
  have n17_ : Aside0 (w.heap.size ≤ gb453) := ⟨h17_⟩
  have n18_ : Aside0 (w.heap.size ≤ gb453) := ⟨h18_⟩
  have n19_ : Aside0 (gb394 ≠ gb453) := ⟨h19_⟩
  have n20_ : Aside0 (gb453 ≠ gb394) := ⟨h20_⟩
  have n21_ : Aside0 (gb395 ≠ gb453) := ⟨h21_⟩
  have n22_ : Aside0 (gb453 ≠ gb395) := ⟨h22_⟩
  have n23_ : Aside0 (gb424 ≠ gb453) := ⟨h23_⟩
  have n24_ : Aside0 (gb453 ≠ gb424) := ⟨h24_⟩
  have n25_ : Aside0 (gb437 ≠ gb453) := ⟨h25_⟩
  have n26_ : Aside0 (gb453 ≠ gb437) := ⟨h26_⟩
  have n27_ : Aside0 (Below w.heap.size w w57) := ⟨h27_⟩
  clear HO399
  clear HO403
  clear HO408
  clear HO413
  clear HO417
  clear HO422
  clear HO427
  clear HO431
  clear HO436
  clear BK394
  clear BK395
  clear BK424
  clear BK437
  clear HB
  clear h0_ h1_ h2_ h3_ h4_ h5_ h6_ h7_ h8_ h9_ h10_ h11_ h12_ h13_ h14_ h15_ h16_ h17_ h18_ h19_ h20_ h21_ h22_ h23_ h24_ h25_ h26_ h27_
  have HO399 := n0_
  have HO403 := n1_
  have HO408 := n2_
  have HO413 := n3_
  have HO417 := n4_
  have HO422 := n5_
  have HO427 := n6_
  have HO431 := n7_
  have HO436 := n8_
  have HO442 := n9_
  have HO446 := n10_
  have HO451 := n11_
  have BK394 := n12_
  have BK395 := n13_
  have BK424 := n14_
  have BK437 := n15_
  have BK453 := n16_
  have GW453 := n17_
  have GE453 := n18_
  have NB394_453 := n19_
  have NB453_394 := n20_
  have NB395_453 := n21_
  have NB453_395 := n22_
  have NB424_453 := n23_
  have NB453_424 := n24_
  have NB437_453 := n25_
  have NB453_437 := n26_
  have HB := n27_
  clear n0_ n1_ n2_ n3_ n4_ n5_ n6_ n7_ n8_ n9_ n10_ n11_ n12_ n13_ n14_ n15_ n16_ n17_ n18_ n19_ n20_ n21_ n22_ n23_ n24_ n25_ n26_ n27_
  have hHeld : w57.cell? ⟨gb437, 0, none⟩ = some (.slice Ao45 t425.length co45) ∧ w57.cell? ⟨gb437, 1, none⟩ = some (.int .i64 t428) ∧ w57.cell? ⟨gb437, 2, none⟩ = some (.slice Ao50 t429.length co50) ∧ w57.cell? ⟨gb437, 3, none⟩ = some (.int .i64 t432) ∧ w57.cell? ⟨gb437, 4, none⟩ = some (.int .i64 t433) ∧ w57.cell? ⟨gb437, 5, none⟩ = some (.slice Ao51 t434.length co51) ∧ w57.cell? ⟨gb395, 0, none⟩ = some (.int .i64 a1_0) ∧ w57.cell? ⟨gb395, 1, none⟩ = some (.int .i64 a1_1) := hS_
  obtain ⟨Ao58, co58, eo58⟩ := Kd.R_slice HO442.out
  (first | subst eo58 | (obtain ⟨f4_, f5_⟩ := slI eo58; subst f4_; subst f5_))
  obtain ⟨Ao61, co61, eo61⟩ := Kd.R_slice HO446.out
  (first | subst eo61 | (obtain ⟨f4_, f5_⟩ := slI eo61; subst f4_; subst f5_))
  obtain ⟨Ao65, co65, eo65⟩ := Kd.R_slice HO451.out
  (first | subst eo65 | (obtain ⟨f4_, f5_⟩ := slI eo65; subst f4_; subst f5_))
  refine norm_ (a' := ?_) ?_ ?_
  rotate_left
  ·simp only [putAll, Act.put, List.setIfInBounds_toArray, List.set_cons_zero, List.set_cons_succ]
   rfl
  refine oZn 9 none HT_ (h := fun K hK => ?_)
  have hs59 := kZc BK453 0
  have hfs59 := blk_frozen BK453.out 0
  have hns59_0 := NB394_453.out
  have hns59_1 := NB395_453.out
  have hns59_2 := NB424_453.out
  have hns59_3 := NB437_453.out
  have hms59_0 := NB453_394.out
  have hms59_1 := NB453_395.out
  have hms59_2 := NB453_424.out
  have hms59_3 := NB453_437.out
  have hs60 := kZc BK453 1
  have hfs60 := blk_frozen BK453.out 1
  have hns60_0 := NB394_453.out
  have hns60_1 := NB395_453.out
  have hns60_2 := NB424_453.out
  have hns60_3 := NB437_453.out
  have hms60_0 := NB453_394.out
  have hms60_1 := NB453_395.out
  have hms60_2 := NB453_424.out
  have hms60_3 := NB453_437.out
  have hs62 := kZc BK453 2
  have hfs62 := blk_frozen BK453.out 2
  have hns62_0 := NB394_453.out
  have hns62_1 := NB395_453.out
  have hns62_2 := NB424_453.out
  have hns62_3 := NB437_453.out
  have hms62_0 := NB453_394.out
  have hms62_1 := NB453_395.out
  have hms62_2 := NB453_424.out
  have hms62_3 := NB453_437.out
  have hs63 := kZc BK453 3
  have hfs63 := blk_frozen BK453.out 3
  have hns63_0 := NB394_453.out
  have hns63_1 := NB395_453.out
  have hns63_2 := NB424_453.out
  have hns63_3 := NB437_453.out
  have hms63_0 := NB453_394.out
  have hms63_1 := NB453_395.out
  have hms63_2 := NB453_424.out
  have hms63_3 := NB453_437.out
  have hs64 := kZc BK453 4
  have hfs64 := blk_frozen BK453.out 4
  have hns64_0 := NB394_453.out
  have hns64_1 := NB395_453.out
  have hns64_2 := NB424_453.out
  have hns64_3 := NB437_453.out
  have hms64_0 := NB453_394.out
  have hms64_1 := NB453_395.out
  have hms64_2 := NB453_424.out
  have hms64_3 := NB453_437.out
  have hs66 := kZc BK453 5
  have hfs66 := blk_frozen BK453.out 5
  have hns66_0 := NB394_453.out
  have hns66_1 := NB395_453.out
  have hns66_2 := NB424_453.out
  have hns66_3 := NB437_453.out
  have hms66_0 := NB453_394.out
  have hms66_1 := NB453_395.out
  have hms66_2 := NB453_424.out
  have hms66_3 := NB453_437.out
  refine skip_ (w1 := ?_) (by rfl) rfl ?_ ?_
  rotate_left
  ·go_simp
   rfl
  refine hK.out _ _ ⟨((cell_far (p := ⟨gb453, _, none⟩) NB437_453.out _).trans (((cell_far (p := ⟨gb453, _, none⟩) NB437_453.out _).trans (((cell_far (p := ⟨gb453, _, none⟩) NB437_453.out _).trans (((cell_far (p := ⟨gb453, _, none⟩) NB437_453.out _).trans (((cell_far (p := ⟨gb453, _, none⟩) NB437_453.out _).trans (((cell_far (p := ⟨gb453, _, none⟩) NB437_453.out _).trans (hHeld.1)))))))))))), ((cell_far (p := ⟨gb453, _, none⟩) NB437_453.out _).trans (((cell_far (p := ⟨gb453, _, none⟩) NB437_453.out _).trans (((cell_far (p := ⟨gb453, _, none⟩) NB437_453.out _).trans (((cell_far (p := ⟨gb453, _, none⟩) NB437_453.out _).trans (((cell_far (p := ⟨gb453, _, none⟩) NB437_453.out _).trans (((cell_far (p := ⟨gb453, _, none⟩) NB437_453.out _).trans (hHeld.2.1)))))))))))), ((cell_far (p := ⟨gb453, _, none⟩) NB437_453.out _).trans (((cell_far (p := ⟨gb453, _, none⟩) NB437_453.out _).trans (((cell_far (p := ⟨gb453, _, none⟩) NB437_453.out _).trans (((cell_far (p := ⟨gb453, _, none⟩) NB437_453.out _).trans (((cell_far (p := ⟨gb453, _, none⟩) NB437_453.out _).trans (((cell_far (p := ⟨gb453, _, none⟩) NB437_453.out _).trans (hHeld.2.2.1)))))))))))), ((cell_far (p := ⟨gb453, _, none⟩) NB437_453.out _).trans (((cell_far (p := ⟨gb453, _, none⟩) NB437_453.out _).trans (((cell_far (p := ⟨gb453, _, none⟩) NB437_453.out _).trans (((cell_far (p := ⟨gb453, _, none⟩) NB437_453.out _).trans (((cell_far (p := ⟨gb453, _, none⟩) NB437_453.out _).trans (((cell_far (p := ⟨gb453, _, none⟩) NB437_453.out _).trans (hHeld.2.2.2.1)))))))))))), ((cell_far (p := ⟨gb453, _, none⟩) NB437_453.out _).trans (((cell_far (p := ⟨gb453, _, none⟩) NB437_453.out _).trans (((cell_far (p := ⟨gb453, _, none⟩) NB437_453.out _).trans (((cell_far (p := ⟨gb453, _, none⟩) NB437_453.out _).trans (((cell_far (p := ⟨gb453, _, none⟩) NB437_453.out _).trans (((cell_far (p := ⟨gb453, _, none⟩) NB437_453.out _).trans (hHeld.2.2.2.2.1)))))))))))), ((cell_far (p := ⟨gb453, _, none⟩) NB437_453.out _).trans (((cell_far (p := ⟨gb453, _, none⟩) NB437_453.out _).trans (((cell_far (p := ⟨gb453, _, none⟩) NB437_453.out _).trans (((cell_far (p := ⟨gb453, _, none⟩) NB437_453.out _).trans (((cell_far (p := ⟨gb453, _, none⟩) NB437_453.out _).trans (((cell_far (p := ⟨gb453, _, none⟩) NB437_453.out _).trans (hHeld.2.2.2.2.2.1)))))))))))), ((cell_far (p := ⟨gb453, _, none⟩) NB395_453.out _).trans (((cell_far (p := ⟨gb453, _, none⟩) NB395_453.out _).trans (((cell_far (p := ⟨gb453, _, none⟩) NB395_453.out _).trans (((cell_far (p := ⟨gb453, _, none⟩) NB395_453.out _).trans (((cell_far (p := ⟨gb453, _, none⟩) NB395_453.out _).trans (((cell_far (p := ⟨gb453, _, none⟩) NB395_453.out _).trans (hHeld.2.2.2.2.2.2.1)))))))))))), ((cell_far (p := ⟨gb453, _, none⟩) NB395_453.out _).trans (((cell_far (p := ⟨gb453, _, none⟩) NB395_453.out _).trans (((cell_far (p := ⟨gb453, _, none⟩) NB395_453.out _).trans (((cell_far (p := ⟨gb453, _, none⟩) NB395_453.out _).trans (((cell_far (p := ⟨gb453, _, none⟩) NB395_453.out _).trans (((cell_far (p := ⟨gb453, _, none⟩) NB395_453.out _).trans (hHeld.2.2.2.2.2.2.2))))))))))))⟩ (fun hHeld => ?_)
  clear hK K
  refine pZu 10 12 HT_ (h := ?_)
  refine done_ (done_of HT_.out (by kernel_rfl)) ?_
  go_upto_region 8 with (fail)
  go_cut [50] (fun v50 wc => ∃ (kq : Nat) (x50_16 : Bool), v50 = .bool x50_16 ∧ Aside0 (laws_FnExactShopFault.j0 kq a2 t423 t452 x50_16 l0_0 a0_1 l0_2 a0_3 a0_4 l0_5 a1_0 a1_1 t411 t414 t415 t418 t419 t420 t425 t428 t429 t432 t433 t434 t440 t443 t444 t447 t448 t449 = some r) ∧ Aside0 (kq ≤ k) ∧ Aside0 (Kd.R k100 100 wc w.heap.size (fun k_ => some k_ ≠ ((.slice Ao45 t425.length co45) : Value).ownBlock ∧ some k_ ≠ ((.slice Ao58 t440.length co58) : Value).ownBlock) (.slice Ao32 t411.length co32) t411) ∧ Aside0 (Kd.R (Kd.int .i64) 3 wc w.heap.size (fun k_ => some k_ ≠ ((.slice Ao50 t429.length co50) : Value).ownBlock ∧ some k_ ≠ ((.slice Ao61 t444.length co61) : Value).ownBlock) (.slice Ao35 t415.length co35) t415) ∧ Aside0 (Kd.R k61 61 wc w.heap.size (fun k_ => some k_ ≠ ((.slice Ao51 t434.length co51) : Value).ownBlock ∧ some k_ ≠ ((.slice Ao65 t449.length co65) : Value).ownBlock) (.slice Ao39 t420.length co39) t420) ∧ Aside0 (Kd.R k100 100 wc w.heap.size (fun k_ => some k_ ≠ ((.slice Ao32 t411.length co32) : Value).ownBlock ∧ some k_ ≠ ((.slice Ao58 t440.length co58) : Value).ownBlock) (.slice Ao45 t425.length co45) t425) ∧ Aside0 (Kd.R (Kd.int .i64) 3 wc w.heap.size (fun k_ => some k_ ≠ ((.slice Ao35 t415.length co35) : Value).ownBlock ∧ some k_ ≠ ((.slice Ao61 t444.length co61) : Value).ownBlock) (.slice Ao50 t429.length co50) t429) ∧ Aside0 (Kd.R k61 61 wc w.heap.size (fun k_ => some k_ ≠ ((.slice Ao39 t420.length co39) : Value).ownBlock ∧ some k_ ≠ ((.slice Ao65 t449.length co65) : Value).ownBlock) (.slice Ao51 t434.length co51) t434) ∧ Aside0 (Kd.R k100 100 wc w.heap.size (fun k_ => some k_ ≠ ((.slice Ao32 t411.length co32) : Value).ownBlock ∧ some k_ ≠ ((.slice Ao45 t425.length co45) : Value).ownBlock) (.slice Ao58 t440.length co58) t440) ∧ Aside0 (Kd.R (Kd.int .i64) 3 wc w.heap.size (fun k_ => some k_ ≠ ((.slice Ao35 t415.length co35) : Value).ownBlock ∧ some k_ ≠ ((.slice Ao50 t429.length co50) : Value).ownBlock) (.slice Ao61 t444.length co61) t444) ∧ Aside0 (Kd.R k61 61 wc w.heap.size (fun k_ => some k_ ≠ ((.slice Ao39 t420.length co39) : Value).ownBlock ∧ some k_ ≠ ((.slice Ao51 t434.length co51) : Value).ownBlock) (.slice Ao65 t449.length co65) t449) ∧ Aside0 (wc.heap[gb394]? = some (.cells #[(.slice A0_0 l0_0.length c0_0), .int .i64 a0_1, (.slice A0_2 l0_2.length c0_2), .int .i64 a0_3, .int .i64 a0_4, (.slice A0_5 l0_5.length c0_5)] 28 (0, 0))) ∧ Aside0 (wc.heap[gb395]? = some (.cells #[.int .i64 a1_0, .int .i64 a1_1] 30 (0, 0))) ∧ Aside0 (wc.heap[gb424]? = some (.cells #[(.slice Ao32 t411.length co32), .int .i64 t414, (.slice Ao35 t415.length co35), .int .i64 t418, .int .i64 t419, (.slice Ao39 t420.length co39)] 37 (0, 0))) ∧ Aside0 (wc.heap[gb437]? = some (.cells #[(.slice Ao45 t425.length co45), .int .i64 t428, (.slice Ao50 t429.length co50), .int .i64 t432, .int .i64 t433, (.slice Ao51 t434.length co51)] 37 (0, 0))) ∧ Aside0 (wc.heap[gb453]? = some (.cells #[(.slice Ao58 t440.length co58), .int .i64 t443, (.slice Ao61 t444.length co61), .int .i64 t447, .int .i64 t448, (.slice Ao65 t449.length co65)] 37 (0, 0))) ∧ Aside0 (Below w.heap.size w wc))
  case first =>
   have H := HC17.out
   clear HC17
   obtain ⟨t454, A67, H⟩ := bsI H
   by_cases c68 : t454 = true
   ·subst c68
    rw [if_pos rfl] at H
    have H' := Aside0.mk H
    clear H
    have hnb69 := NB453_394.out
    have hnc69 := NB394_453.out
    have hnb70 := NB453_395.out
    have hnc70 := NB395_453.out
    have hnb71 := NB453_424.out
    have hnc71 := NB424_453.out
    have hnb72 := NB453_437.out
    have hnc72 := NB437_453.out
    obtain ⟨hcz73_0, hcz73_1, hcz73_2, hcz73_3, hcz73_4, hcz73_5, hfz73_0, hfz73_1, hfz73_2, hfz73_3, hfz73_4, hfz73_5⟩ := kZc6 BK453
    have hnb74 := NB424_394.out
    have hnc74 := NB394_424.out
    have hnb75 := NB424_395.out
    have hnc75 := NB395_424.out
    have hnb76 := NB424_437.out
    have hnc76 := NB437_424.out
    obtain ⟨hcz77_0, hcz77_1, hcz77_2, hcz77_3, hcz77_4, hcz77_5, hfz77_0, hfz77_1, hfz77_2, hfz77_3, hfz77_4, hfz77_5⟩ := kZc6 BK424
    go_wp2_with (first | ((with_reducible refine gZc 10 (h := ?_)); refine gL 44 Try.func10 #[.agg #[.slice Ao58 t440.length co58, .int .i64 t443, .slice Ao61 t444.length co61, .int .i64 t447, .int .i64 t448, .slice Ao65 t449.length co65], .agg #[.slice Ao32 t411.length co32, .int .i64 t414, .slice Ao35 t415.length co35, .int .i64 t418, .int .i64 t419, .slice Ao39 t420.length co39]] ?_; (with_reducible refine (laws_eqShop.calls k _ _ t440 t443 _ _ t444 t447 t448 _ _ t449 _ _ t411 t414 _ _ t415 t418 t419 _ _ t420 true _ ?side1 ?side2 ?side3 ?side4 ?side5 ?side6 ?side7 ?side8 ?side9 ?side10 ?side11 ?side12 A67.out).mono ?_); (case side1 => exact rdZ HO442); (case side2 => exact (rd1 HO442)); (case side3 => exact rdZ HO446); (case side4 => exact (rd1 HO446)); (case side5 => exact rdZ HO451); (case side6 => exact (rd1 HO451)); (case side7 => exact rdZ HO413); (case side8 => exact (rd1 HO413)); (case side9 => exact rdZ HO417); (case side10 => exact (rd1 HO417)); (case side11 => exact rdZ HO422); (case side12 => exact (rd1 HO422)); rintro e w78 ⟨rfl, hb⟩; refine ⟨_, rfl, ?_⟩; replace HO399 := Aside0.mk (Kd.R_below (rZz HO399) hb); replace HO403 := Aside0.mk (Kd.R_below (rZz HO403) hb); replace HO408 := Aside0.mk (Kd.R_below (rZz HO408) hb); replace HO413 := Aside0.mk (Kd.R_below (rZz HO413) hb); replace HO417 := Aside0.mk (Kd.R_below (rZz HO417) hb); replace HO422 := Aside0.mk (Kd.R_below (rZz HO422) hb); replace HO427 := Aside0.mk (Kd.R_below (rZz HO427) hb); replace HO431 := Aside0.mk (Kd.R_below (rZz HO431) hb); replace HO436 := Aside0.mk (Kd.R_below (rZz HO436) hb); replace HO442 := Aside0.mk (Kd.R_below (rZz HO442) hb); replace HO446 := Aside0.mk (Kd.R_below (rZz HO446) hb); replace HO451 := Aside0.mk (Kd.R_below (rZz HO451) hb); replace BK394 := Aside0.mk (blk_below (g := gb394) (o := .cells #[.slice A0_0 l0_0.length c0_0, .int .i64 a0_1, .slice A0_2 l0_2.length c0_2, .int .i64 a0_3, .int .i64 a0_4, .slice A0_5 l0_5.length c0_5] 28 (0, 0)) (kZq BK394) hb); replace BK395 := Aside0.mk (blk_below (g := gb395) (o := .cells #[.int .i64 a1_0, .int .i64 a1_1] 30 (0, 0)) (kZq BK395) hb); replace BK424 := Aside0.mk (blk_below (g := gb424) (o := .cells #[.slice Ao32 t411.length co32, .int .i64 t414, .slice Ao35 t415.length co35, .int .i64 t418, .int .i64 t419, .slice Ao39 t420.length co39] 37 (0, 0)) (kZq BK424) hb); replace BK437 := Aside0.mk (blk_below (g := gb437) (o := .cells #[.slice Ao45 t425.length co45, .int .i64 t428, .slice Ao50 t429.length co50, .int .i64 t432, .int .i64 t433, .slice Ao51 t434.length co51] 37 (0, 0)) (kZq BK437) hb); replace BK453 := Aside0.mk (blk_below (g := gb453) (o := .cells #[.slice Ao58 t440.length co58, .int .i64 t443, .slice Ao61 t444.length co61, .int .i64 t447, .int .i64 t448, .slice Ao65 t449.length co65] 37 (0, 0)) (kZq BK453) hb); replace HB := bbB hb; (try clear hb)))
    go_meet
    case rel => exact ⟨_, ((t452 != t423)), RF, H', ⟨by first | omega | exact Nat.le_refl _⟩, ⟨rM HO413 (fun _ hk => ⟨hk.2.1, hk.2.2⟩)⟩, ⟨rM HO417 (fun _ hk => ⟨hk.2.1, hk.2.2⟩)⟩, ⟨rM HO422 (fun _ hk => ⟨hk.2.1, hk.2.2⟩)⟩, ⟨rM HO427 (fun _ hk => ⟨hk.2.1, hk.2.2⟩)⟩, ⟨rM HO431 (fun _ hk => ⟨hk.2.1, hk.2.2⟩)⟩, ⟨rM HO436 (fun _ hk => ⟨hk.2.1, hk.2.2⟩)⟩, ⟨rM HO442 (fun _ hk => ⟨hk.2.1, hk.2.2⟩)⟩, ⟨rM HO446 (fun _ hk => ⟨hk.2.1, hk.2.2⟩)⟩, ⟨rM HO451 (fun _ hk => ⟨hk.2.1, hk.2.2⟩)⟩, ⟨by (with_reducible repeat (first | refine blk_drewN ?_ _ | refine blk_drew ?_ | refine blk_alloc ?_ _)); exact BK394.out⟩, ⟨by (with_reducible repeat (first | refine blk_drewN ?_ _ | refine blk_drew ?_ | refine blk_alloc ?_ _)); exact BK395.out⟩, ⟨by (with_reducible repeat (first | refine blk_drewN ?_ _ | refine blk_drew ?_ | refine blk_alloc ?_ _)); exact BK424.out⟩, ⟨by (with_reducible repeat (first | refine blk_drewN ?_ _ | refine blk_drew ?_ | refine blk_alloc ?_ _)); exact BK437.out⟩, ⟨by (with_reducible repeat (first | refine blk_drewN ?_ _ | refine blk_drew ?_ | refine blk_alloc ?_ _)); exact BK453.out⟩, ⟨BB⟩⟩
   ·replace c68 := Bool.eq_false_iff.mpr c68
    subst c68
    rw [if_neg nft] at H
    have H' := Aside0.mk H
    clear H
    have hnb79 := NB453_394.out
    have hnc79 := NB394_453.out
    have hnb80 := NB453_395.out
    have hnc80 := NB395_453.out
    have hnb81 := NB453_424.out
    have hnc81 := NB424_453.out
    have hnb82 := NB453_437.out
    have hnc82 := NB437_453.out
    obtain ⟨hcz83_0, hcz83_1, hcz83_2, hcz83_3, hcz83_4, hcz83_5, hfz83_0, hfz83_1, hfz83_2, hfz83_3, hfz83_4, hfz83_5⟩ := kZc6 BK453
    have hnb84 := NB424_394.out
    have hnc84 := NB394_424.out
    have hnb85 := NB424_395.out
    have hnc85 := NB395_424.out
    have hnb86 := NB424_437.out
    have hnc86 := NB437_424.out
    obtain ⟨hcz87_0, hcz87_1, hcz87_2, hcz87_3, hcz87_4, hcz87_5, hfz87_0, hfz87_1, hfz87_2, hfz87_3, hfz87_4, hfz87_5⟩ := kZc6 BK424
    go_wp2_with (first | ((with_reducible refine gZc 10 (h := ?_)); refine gL 44 Try.func10 #[.agg #[.slice Ao58 t440.length co58, .int .i64 t443, .slice Ao61 t444.length co61, .int .i64 t447, .int .i64 t448, .slice Ao65 t449.length co65], .agg #[.slice Ao32 t411.length co32, .int .i64 t414, .slice Ao35 t415.length co35, .int .i64 t418, .int .i64 t419, .slice Ao39 t420.length co39]] ?_; (with_reducible refine (laws_eqShop.calls k _ _ t440 t443 _ _ t444 t447 t448 _ _ t449 _ _ t411 t414 _ _ t415 t418 t419 _ _ t420 false _ ?side1 ?side2 ?side3 ?side4 ?side5 ?side6 ?side7 ?side8 ?side9 ?side10 ?side11 ?side12 A67.out).mono ?_); (case side1 => exact rdZ HO442); (case side2 => exact (rd1 HO442)); (case side3 => exact rdZ HO446); (case side4 => exact (rd1 HO446)); (case side5 => exact rdZ HO451); (case side6 => exact (rd1 HO451)); (case side7 => exact rdZ HO413); (case side8 => exact (rd1 HO413)); (case side9 => exact rdZ HO417); (case side10 => exact (rd1 HO417)); (case side11 => exact rdZ HO422); (case side12 => exact (rd1 HO422)); rintro e w88 ⟨rfl, hb⟩; refine ⟨_, rfl, ?_⟩; replace HO399 := Aside0.mk (Kd.R_below (rZz HO399) hb); replace HO403 := Aside0.mk (Kd.R_below (rZz HO403) hb); replace HO408 := Aside0.mk (Kd.R_below (rZz HO408) hb); replace HO413 := Aside0.mk (Kd.R_below (rZz HO413) hb); replace HO417 := Aside0.mk (Kd.R_below (rZz HO417) hb); replace HO422 := Aside0.mk (Kd.R_below (rZz HO422) hb); replace HO427 := Aside0.mk (Kd.R_below (rZz HO427) hb); replace HO431 := Aside0.mk (Kd.R_below (rZz HO431) hb); replace HO436 := Aside0.mk (Kd.R_below (rZz HO436) hb); replace HO442 := Aside0.mk (Kd.R_below (rZz HO442) hb); replace HO446 := Aside0.mk (Kd.R_below (rZz HO446) hb); replace HO451 := Aside0.mk (Kd.R_below (rZz HO451) hb); replace BK394 := Aside0.mk (blk_below (g := gb394) (o := .cells #[.slice A0_0 l0_0.length c0_0, .int .i64 a0_1, .slice A0_2 l0_2.length c0_2, .int .i64 a0_3, .int .i64 a0_4, .slice A0_5 l0_5.length c0_5] 28 (0, 0)) (kZq BK394) hb); replace BK395 := Aside0.mk (blk_below (g := gb395) (o := .cells #[.int .i64 a1_0, .int .i64 a1_1] 30 (0, 0)) (kZq BK395) hb); replace BK424 := Aside0.mk (blk_below (g := gb424) (o := .cells #[.slice Ao32 t411.length co32, .int .i64 t414, .slice Ao35 t415.length co35, .int .i64 t418, .int .i64 t419, .slice Ao39 t420.length co39] 37 (0, 0)) (kZq BK424) hb); replace BK437 := Aside0.mk (blk_below (g := gb437) (o := .cells #[.slice Ao45 t425.length co45, .int .i64 t428, .slice Ao50 t429.length co50, .int .i64 t432, .int .i64 t433, .slice Ao51 t434.length co51] 37 (0, 0)) (kZq BK437) hb); replace BK453 := Aside0.mk (blk_below (g := gb453) (o := .cells #[.slice Ao58 t440.length co58, .int .i64 t443, .slice Ao61 t444.length co61, .int .i64 t447, .int .i64 t448, .slice Ao65 t449.length co65] 37 (0, 0)) (kZq BK453) hb); replace HB := bbB hb; (try clear hb)))
    go_meet
    case rel => exact ⟨_, (true), RF, H', ⟨by first | omega | exact Nat.le_refl _⟩, ⟨rM HO413 (fun _ hk => ⟨hk.2.1, hk.2.2⟩)⟩, ⟨rM HO417 (fun _ hk => ⟨hk.2.1, hk.2.2⟩)⟩, ⟨rM HO422 (fun _ hk => ⟨hk.2.1, hk.2.2⟩)⟩, ⟨rM HO427 (fun _ hk => ⟨hk.2.1, hk.2.2⟩)⟩, ⟨rM HO431 (fun _ hk => ⟨hk.2.1, hk.2.2⟩)⟩, ⟨rM HO436 (fun _ hk => ⟨hk.2.1, hk.2.2⟩)⟩, ⟨rM HO442 (fun _ hk => ⟨hk.2.1, hk.2.2⟩)⟩, ⟨rM HO446 (fun _ hk => ⟨hk.2.1, hk.2.2⟩)⟩, ⟨rM HO451 (fun _ hk => ⟨hk.2.1, hk.2.2⟩)⟩, ⟨by (with_reducible repeat (first | refine blk_drewN ?_ _ | refine blk_drew ?_ | refine blk_alloc ?_ _)); exact BK394.out⟩, ⟨by (with_reducible repeat (first | refine blk_drewN ?_ _ | refine blk_drew ?_ | refine blk_alloc ?_ _)); exact BK395.out⟩, ⟨by (with_reducible repeat (first | refine blk_drewN ?_ _ | refine blk_drew ?_ | refine blk_alloc ?_ _)); exact BK424.out⟩, ⟨by (with_reducible repeat (first | refine blk_drewN ?_ _ | refine blk_drew ?_ | refine blk_alloc ?_ _)); exact BK437.out⟩, ⟨by (with_reducible repeat (first | refine blk_drewN ?_ _ | refine blk_drew ?_ | refine blk_alloc ?_ _)); exact BK453.out⟩, ⟨BB⟩⟩
  case rest =>
   clear HC17
   try clear c1
   try clear p2
   try clear c6
   try clear c7
   try clear c8
   try clear c9
   try clear c10
   try clear c68
   try clear c69
   try clear c70
   try clear c71
   try clear c72
   try clear c74
   try clear c75
   try clear c76
   try clear c79
   try clear c80
   try clear c81
   try clear c82
   try clear c84
   try clear c85
   try clear c86
   try clear hcz73_0
   try clear hcz73_1
   try clear hcz73_2
   try clear hcz73_3
   try clear hcz73_4
   try clear hcz73_5
   try clear hcz77_0
   try clear hcz77_1
   try clear hcz77_2
   try clear hcz77_3
   try clear hcz77_4
   try clear hcz77_5
   try clear hcz83_0
   try clear hcz83_1
   try clear hcz83_2
   try clear hcz83_3
   try clear hcz83_4
   try clear hcz83_5
   try clear hcz87_0
   try clear hcz87_1
   try clear hcz87_2
   try clear hcz87_3
   try clear hcz87_4
   try clear hcz87_5
   try clear hfz73_0
   try clear hfz73_1
   try clear hfz73_2
   try clear hfz73_3
   try clear hfz73_4
   try clear hfz73_5
   try clear hfz77_0
   try clear hfz77_1
   try clear hfz77_2
   try clear hfz77_3
   try clear hfz77_4
   try clear hfz77_5
   try clear hfz83_0
   try clear hfz83_1
   try clear hfz83_2
   try clear hfz83_3
   try clear hfz83_4
   try clear hfz83_5
   try clear hfz87_0
   try clear hfz87_1
   try clear hfz87_2
   try clear hfz87_3
   try clear hfz87_4
   try clear hfz87_5
   obtain ⟨kq, x50_16, rfl, HA, HJ16, HO_425000, HO_425002, HO_425005, HO_438000, HO_438002, HO_438005, HO_454000, HO_454002, HO_454005, BK394, BK395, BK424, BK437, BK453, HB⟩ := hcut
   cases kq with
   | zero => exact absurd HA.out (by simp [laws_FnExactShopFault.j0])
   | succ kj16 =>
    have H := HA.out
    clear HA
    simp only [laws_FnExactShopFault.j0] at H
    by_cases c89 : x50_16 = true
    ·subst c89
     rw [if_pos rfl] at H
     obtain rfl := Option.some.inj H
     go_wp2
     go_ret
     exact ⟨EV, BB⟩
    ·replace c89 := Bool.eq_false_iff.mpr c89
     subst c89
     rw [if_neg nft] at H
     obtain ⟨⟨t455, t458, t459, t462, t463, t464⟩, A90, H⟩ := bsI H
     dsimp only at H
     obtain ⟨t467, A91, H⟩ := bsI H
     by_cases c92 : t467 = true
     ·subst c92
      rw [if_pos rfl] at H
      obtain ⟨⟨t468, t469, t470, t471⟩, A93, H⟩ := bsI H
      dsimp only at H
      have HC94 := Aside0.mk H
      clear H
      try go_wp2
      replace HO_425000 := Aside0.mk (Kd.R_drew HO_425000.out)
      replace HO_425002 := Aside0.mk (Kd.R_drew HO_425002.out)
      replace HO_425005 := Aside0.mk (Kd.R_drew HO_425005.out)
      replace HO_438000 := Aside0.mk (Kd.R_drew HO_438000.out)
      replace HO_438002 := Aside0.mk (Kd.R_drew HO_438002.out)
      replace HO_438005 := Aside0.mk (Kd.R_drew HO_438005.out)
      replace HO_454000 := Aside0.mk (Kd.R_drew HO_454000.out)
      replace HO_454002 := Aside0.mk (Kd.R_drew HO_454002.out)
      replace HO_454005 := Aside0.mk (Kd.R_drew HO_454005.out)
      replace BK394 := Aside0.mk (blk_drew BK394.out)
      replace BK395 := Aside0.mk (blk_drew BK395.out)
      replace BK424 := Aside0.mk (blk_drew BK424.out)
      replace BK437 := Aside0.mk (blk_drew BK437.out)
      replace BK453 := Aside0.mk (blk_drew BK453.out)
      replace HB := Aside0.mk (below_drew1 HB.out)
      refine start_ (n := 5) (S := fun w' => w'.cell? ⟨gb437, 0, none⟩ = some (.slice Ao45 t425.length co45) ∧ w'.cell? ⟨gb437, 1, none⟩ = some (.int .i64 t428) ∧ w'.cell? ⟨gb437, 2, none⟩ = some (.slice Ao50 t429.length co50) ∧ w'.cell? ⟨gb437, 3, none⟩ = some (.int .i64 t432) ∧ w'.cell? ⟨gb437, 4, none⟩ = some (.int .i64 t433) ∧ w'.cell? ⟨gb437, 5, none⟩ = some (.slice Ao51 t434.length co51) ∧ w'.cell? ⟨gb394, 0, none⟩ = some (.slice A0_0 l0_0.length c0_0) ∧ w'.cell? ⟨gb394, 1, none⟩ = some (.int .i64 a0_1) ∧ w'.cell? ⟨gb394, 2, none⟩ = some (.slice A0_2 l0_2.length c0_2) ∧ w'.cell? ⟨gb394, 3, none⟩ = some (.int .i64 a0_3) ∧ w'.cell? ⟨gb394, 4, none⟩ = some (.int .i64 a0_4) ∧ w'.cell? ⟨gb394, 5, none⟩ = some (.slice A0_5 l0_5.length c0_5)) (ds := []) (Array.replicate 5 false) (by kernel_rfl) rfl rfl ⟨kZc BK437 0, kZc BK437 1, kZc BK437 2, kZc BK437 3, kZc BK437 4, kZc BK437 5, kZc BK394 0, kZc BK394 1, kZc BK394 2, kZc BK394 3, kZc BK394 4, kZc BK394 5⟩ (fun hHeld => ?_)
      generalize wc.drew = w95 at HO_425000 HO_425002 HO_425005 HO_438000 HO_438002 HO_438005 HO_454000 HO_454002 HO_454005 BK394 BK395 BK424 BK437 BK453 HB hHeld ⊢
      refine take_ (i := 0) (N := some 51) (v := ?_) (a' := ?_) #[true, false, false, false, false] rfl rfl (by kernel_rfl) (fun _ _ _ h => h) (Or.inl ⟨by rfl, ?_⟩) hHeld ?_ ?_
      rotate_left
      ·rintro w' ⟨s0, s1, s2, s3, s4, s5, s6, s7, s8, s9, s10, s11⟩
       go_simp
       with_reducible rfl
      rotate_left
      ·simp only [Act.put, List.setIfInBounds_toArray, List.set_cons_zero, List.set_cons_succ, i64_w, i32_w]
       rfl
      refine take_ (i := 1) (N := some 52) (v := ?_) (a' := ?_) #[true, true, false, false, false] rfl rfl (by kernel_rfl) (fun _ _ _ h => h) (Or.inl ⟨by rfl, ?_⟩) hHeld ?_ ?_
      rotate_left
      ·rintro w' ⟨s0, s1, s2, s3, s4, s5, s6, s7, s8, s9, s10, s11⟩
       go_simp
       with_reducible rfl
      rotate_left
      ·simp only [Act.put, List.setIfInBounds_toArray, List.set_cons_zero, List.set_cons_succ, i64_w, i32_w]
       rfl
      refine one_ (i := 2) (N := some 53) #[true, true, true, false, false] rfl rfl (by kernel_rfl) (by decide) (fun K hK => ?_)
      refine goes_ Try.func7 (by kernel_rfl) rfl #[.agg #[.slice A0_0 l0_0.length c0_0, .int .i64 a0_1, .slice A0_2 l0_2.length c0_2, .int .i64 a0_3, .int .i64 a0_4, .slice A0_5 l0_5.length c0_5]] (by rfl) rfl rfl MP ?_
      with_reducible refine (laws_toShop.calls kj16 _ _ l0_0 a0_1 _ _ l0_2 a0_3 a0_4 _ _ l0_5 t455 t458 t459 t462 t463 t464 _ ?side1 ?side2 ?side3 ?side4 ?side5 ?side6 A90.out).mono ?_
      (case side1 => exact cZr (Kd.C_below HR0_0.out HB.out))
      (case side2 => exact HC0_0.out)
      (case side3 => exact cZr (Kd.C_below HR0_2.out HB.out))
      (case side4 => exact HC0_2.out)
      (case side5 => exact cZr (Kd.C_below HR0_5.out HB.out))
      (case side6 => exact HC0_5.out)
      rintro e w96 ⟨v456, v460, v465, rfl, ho0, ho1, ho2, hb⟩
      refine ⟨_, rfl, ?_⟩
      have HO457 := Aside0.mk (Kd.R_lower (Kd.R_new' (Kd.R_new' (Kd.R_new' ho0 (Kd.R_lt (rZr HO_425000))) (Kd.R_lt (rZr HO_438000))) (Kd.R_lt (rZr HO_454000))) (below_size BB))
      replace HO_425000 := reB HO_425000 ho0 hb
      replace HO_438000 := reB HO_438000 ho0 hb
      replace HO_454000 := reB HO_454000 ho0 hb
      have HO461 := Aside0.mk (Kd.R_lower (Kd.R_new' (Kd.R_new' (Kd.R_new' ho1 (Kd.R_lt (rZr HO_425002))) (Kd.R_lt (rZr HO_438002))) (Kd.R_lt (rZr HO_454002))) (below_size BB))
      replace HO_425002 := reB HO_425002 ho1 hb
      replace HO_438002 := reB HO_438002 ho1 hb
      replace HO_454002 := reB HO_454002 ho1 hb
      have HO466 := Aside0.mk (Kd.R_lower (Kd.R_new' (Kd.R_new' (Kd.R_new' ho2 (Kd.R_lt (rZr HO_425005))) (Kd.R_lt (rZr HO_438005))) (Kd.R_lt (rZr HO_454005))) (below_size BB))
      replace HO_425005 := reB HO_425005 ho2 hb
      replace HO_438005 := reB HO_438005 ho2 hb
      replace HO_454005 := reB HO_454005 ho2 hb
      replace BK394 := kbB BK394 hb
      replace BK395 := kbB BK395 hb
      replace BK424 := kbB BK424 hb
      replace BK437 := kbB BK437 hb
      replace BK453 := kbB BK453 hb
      replace HB := bbB hb
      (try clear hb)
      (try clear ho0)
      (try clear ho1)
      (try clear ho2)
      obtain ⟨Ao97, co97, eo97⟩ := Kd.R_slice HO457.out
      (first | subst eo97 | (obtain ⟨f4_, f5_⟩ := slI eo97; subst f4_; subst f5_))
      obtain ⟨Ao98, co98, eo98⟩ := Kd.R_slice HO461.out
      (first | subst eo98 | (obtain ⟨f4_, f5_⟩ := slI eo98; subst f4_; subst f5_))
      obtain ⟨Ao99, co99, eo99⟩ := Kd.R_slice HO466.out
      (first | subst eo99 | (obtain ⟨f4_, f5_⟩ := slI eo99; subst f4_; subst f5_))
      refine hK.out _ _ ⟨kZc BK437 0, kZc BK437 1, kZc BK437 2, kZc BK437 3, kZc BK437 4, kZc BK437 5, kZc BK394 0, kZc BK394 1, kZc BK394 2, kZc BK394 3, kZc BK394 4, kZc BK394 5⟩ (fun hHeld => ?_)
      clear hK K
      refine nZm (h := ?_)
      refine one_ (i := 3) (N := some 54) #[true, true, true, true, false] rfl rfl (by kernel_rfl) (by decide) (fun K hK => ?_)
      refine goes_ Try.func10 (by kernel_rfl) rfl #[.agg #[.slice Ao45 t425.length co45, .int .i64 t428, .slice Ao50 t429.length co50, .int .i64 t432, .int .i64 t433, .slice Ao51 t434.length co51], .agg #[.slice Ao97 t455.length co97, .int .i64 t458, .slice Ao98 t459.length co98, .int .i64 t462, .int .i64 t463, .slice Ao99 t464.length co99]] (by rfl) rfl rfl MP ?_
      with_reducible refine (laws_eqShop.calls kj16 _ _ t425 t428 _ _ t429 t432 t433 _ _ t434 _ _ t455 t458 _ _ t459 t462 t463 _ _ t464 true _ ?side1 ?side2 ?side3 ?side4 ?side5 ?side6 ?side7 ?side8 ?side9 ?side10 ?side11 ?side12 A91.out).mono ?_
      (case side1 => exact rdC HO_438000)
      (case side2 => exact (rd1 HO_438000))
      (case side3 => exact rdC HO_438002)
      (case side4 => exact (rd1 HO_438002))
      (case side5 => exact rdC HO_438005)
      (case side6 => exact (rd1 HO_438005))
      (case side7 => exact rdC HO457)
      (case side8 => exact (rd1 HO457))
      (case side9 => exact rdC HO461)
      (case side10 => exact (rd1 HO461))
      (case side11 => exact rdC HO466)
      (case side12 => exact (rd1 HO466))
      rintro e w100 ⟨rfl, hb⟩
      refine ⟨_, rfl, ?_⟩
      replace HO_425000 := rbB HO_425000 hb
      replace HO_425002 := rbB HO_425002 hb
      replace HO_425005 := rbB HO_425005 hb
      replace HO_438000 := rbB HO_438000 hb
      replace HO_438002 := rbB HO_438002 hb
      replace HO_438005 := rbB HO_438005 hb
      replace HO_454000 := rbB HO_454000 hb
      replace HO_454002 := rbB HO_454002 hb
      replace HO_454005 := rbB HO_454005 hb
      replace HO457 := rbB HO457 hb
      replace HO461 := rbB HO461 hb
      replace HO466 := rbB HO466 hb
      replace BK394 := kbB BK394 hb
      replace BK395 := kbB BK395 hb
      replace BK424 := kbB BK424 hb
      replace BK437 := kbB BK437 hb
      replace BK453 := kbB BK453 hb
      replace HB := bbB hb
      (try clear hb)
      refine hK.out _ _ ⟨kZc BK437 0, kZc BK437 1, kZc BK437 2, kZc BK437 3, kZc BK437 4, kZc BK437 5, kZc BK394 0, kZc BK394 1, kZc BK394 2, kZc BK394 3, kZc BK394 4, kZc BK394 5⟩ (fun hHeld => ?_)
      clear hK K
      refine nZm (h := ?_)
      refine pure_ (i := 4) (N := some 55) (v := ?_) (a' := ?_) #[true, true, true, true, true] rfl rfl (by kernel_rfl) (fun _ _ _ h => h) (Or.inl ⟨by rfl, ?_⟩) ?_ ?_
      rotate_left
      ·intro w'
       go_simp
       with_reducible rfl
      rotate_left
      ·simp only [Act.put, List.setIfInBounds_toArray, List.set_cons_zero, List.set_cons_succ, i64_w, i32_w]
       rfl
      refine done_ (by kernel_rfl) ?_
      have hnb101 := NB437_394.out
      have hnc101 := NB394_437.out
      have hnb102 := NB437_395.out
      have hnc102 := NB395_437.out
      have hnb103 := NB437_424.out
      have hnc103 := NB424_437.out
      have hnb104 := NB437_453.out
      have hnc104 := NB453_437.out
      obtain ⟨hcz105_0, hcz105_1, hcz105_2, hcz105_3, hcz105_4, hcz105_5, hfz105_0, hfz105_1, hfz105_2, hfz105_3, hfz105_4, hfz105_5⟩ := kZc6 BK437
      go_upto_region 14 with (first | ((with_reducible refine gZc 11 (h := ?_)); refine gL 58 Try.func11 #[.agg #[.slice Ao45 t425.length co45, .int .i64 t428, .slice Ao50 t429.length co50, .int .i64 t432, .int .i64 t433, .slice Ao51 t434.length co51], .int .i64 1] ?_; (with_reducible refine (laws_markShop.calls kj16 (fun k_ => some k_ = (.slice Ao45 t425.length co45 : Value).ownBlock) (.slice Ao45 t425.length co45) t425 t428 (fun k_ => some k_ = (.slice Ao50 t429.length co50 : Value).ownBlock) (.slice Ao50 t429.length co50) t429 t432 t433 (fun k_ => some k_ = (.slice Ao51 t434.length co51 : Value).ownBlock) (.slice Ao51 t434.length co51) t434 1 t468 t469 t470 t471 w _ ?side1 ?side2 ?side3 ?side4 A93.out).mono ?_); (case side1 => repeat (first | (with_reducible first | exact HB.out | apply below_alloc | apply pw_below_drewN | apply below_drew1 | refine below_set ?_ GE394.out | refine below_set ?_ GE395.out | refine below_set ?_ GE424.out | refine below_set ?_ GE437.out | refine below_set ?_ GE453.out) | exact HB.out)); (case side2 => exact Kd.R_tight rfl HO_438000.out); (case side3 => exact Kd.R_tight rfl HO_438002.out); (case side4 => exact Kd.R_tight rfl HO_438005.out); rintro e w106 ⟨rfl, hy0, hy1, hy2, hb, hkp⟩; refine ⟨_, rfl, ?_⟩; have n0_ := Aside0.mk (Kd.R_mono (ok' := fun k_ => some k_ ≠ (.slice Ao45 t425.length co45 : Value).ownBlock ∧ some k_ ≠ (.slice Ao58 t440.length co58 : Value).ownBlock ∧ some k_ ≠ (.slice Ao97 t455.length co97 : Value).ownBlock) (Kd.R_keptB ((Kd.R_apart' (Kd.R_apart' HO_425000.out (Kd.R_typed HO_438002.out) (by decide)) (Kd.R_typed HO_438005.out) (by decide))) hkp (fun k_ hk_ hs_ => Or.elim hs_ hk_.1.1.1.1 (fun e_ => Or.elim e_ hk_.1.2 hk_.2))) (fun k_ hk_ => ⟨hk_.1.1.1.1.1, hk_.1.1.1.1.2, hk_.1.1.1.2⟩)); have n1_ := Aside0.mk (Kd.R_mono (ok' := fun k_ => some k_ ≠ (.slice Ao50 t429.length co50 : Value).ownBlock ∧ some k_ ≠ (.slice Ao61 t444.length co61 : Value).ownBlock ∧ some k_ ≠ (.slice Ao98 t459.length co98 : Value).ownBlock) (Kd.R_keptB ((Kd.R_apart' (Kd.R_apart' HO_425002.out (Kd.R_typed HO_438000.out) (by decide)) (Kd.R_typed HO_438005.out) (by decide))) hkp (fun k_ hk_ hs_ => Or.elim hs_ hk_.1.2 (fun e_ => Or.elim e_ hk_.1.1.1.1 hk_.2))) (fun k_ hk_ => ⟨hk_.1.1.1.1.1, hk_.1.1.1.1.2, hk_.1.1.1.2⟩)); have n2_ := Aside0.mk (Kd.R_mono (ok' := fun k_ => some k_ ≠ (.slice Ao51 t434.length co51 : Value).ownBlock ∧ some k_ ≠ (.slice Ao65 t449.length co65 : Value).ownBlock ∧ some k_ ≠ (.slice Ao99 t464.length co99 : Value).ownBlock) (Kd.R_keptB ((Kd.R_apart' (Kd.R_apart' HO_425005.out (Kd.R_typed HO_438000.out) (by decide)) (Kd.R_typed HO_438002.out) (by decide))) hkp (fun k_ hk_ hs_ => Or.elim hs_ hk_.1.2 (fun e_ => Or.elim e_ hk_.2 hk_.1.1.1.1))) (fun k_ hk_ => ⟨hk_.1.1.1.1.1, hk_.1.1.1.1.2, hk_.1.1.1.2⟩)); have n3_ := Aside0.mk (Kd.R_reok rfl hy0 (fun k_ e_ => HO_438000.out.1 k_ e_)); have n4_ := Aside0.mk (Kd.R_reok rfl hy1 (fun k_ e_ => HO_438002.out.1 k_ e_)); have n5_ := Aside0.mk (Kd.R_reok rfl hy2 (fun k_ e_ => HO_438005.out.1 k_ e_)); have n6_ := Aside0.mk (Kd.R_mono (ok' := fun k_ => some k_ ≠ (.slice Ao32 t411.length co32 : Value).ownBlock ∧ some k_ ≠ (.slice Ao45 t425.length co45 : Value).ownBlock ∧ some k_ ≠ (.slice Ao97 t455.length co97 : Value).ownBlock) (Kd.R_keptB ((Kd.R_apart' (Kd.R_apart' HO_454000.out (Kd.R_typed HO_438002.out) (by decide)) (Kd.R_typed HO_438005.out) (by decide))) hkp (fun k_ hk_ hs_ => Or.elim hs_ hk_.1.1.1.2 (fun e_ => Or.elim e_ hk_.1.2 hk_.2))) (fun k_ hk_ => ⟨hk_.1.1.1.1.1, hk_.1.1.1.1.2, hk_.1.1.1.2⟩)); have n7_ := Aside0.mk (Kd.R_mono (ok' := fun k_ => some k_ ≠ (.slice Ao35 t415.length co35 : Value).ownBlock ∧ some k_ ≠ (.slice Ao50 t429.length co50 : Value).ownBlock ∧ some k_ ≠ (.slice Ao98 t459.length co98 : Value).ownBlock) (Kd.R_keptB ((Kd.R_apart' (Kd.R_apart' HO_454002.out (Kd.R_typed HO_438000.out) (by decide)) (Kd.R_typed HO_438005.out) (by decide))) hkp (fun k_ hk_ hs_ => Or.elim hs_ hk_.1.2 (fun e_ => Or.elim e_ hk_.1.1.1.2 hk_.2))) (fun k_ hk_ => ⟨hk_.1.1.1.1.1, hk_.1.1.1.1.2, hk_.1.1.1.2⟩)); have n8_ := Aside0.mk (Kd.R_mono (ok' := fun k_ => some k_ ≠ (.slice Ao39 t420.length co39 : Value).ownBlock ∧ some k_ ≠ (.slice Ao51 t434.length co51 : Value).ownBlock ∧ some k_ ≠ (.slice Ao99 t464.length co99 : Value).ownBlock) (Kd.R_keptB ((Kd.R_apart' (Kd.R_apart' HO_454005.out (Kd.R_typed HO_438000.out) (by decide)) (Kd.R_typed HO_438002.out) (by decide))) hkp (fun k_ hk_ hs_ => Or.elim hs_ hk_.1.2 (fun e_ => Or.elim e_ hk_.2 hk_.1.1.1.2))) (fun k_ hk_ => ⟨hk_.1.1.1.1.1, hk_.1.1.1.1.2, hk_.1.1.1.2⟩)); have n9_ := Aside0.mk (blk_kept (kZb BK394) hkp (fun hs_ => Or.elim hs_ (Kd.R_ne HO_438000.out BK394.out (by decide)) (fun e_ => Or.elim e_ (Kd.R_ne HO_438002.out BK394.out (by decide)) (Kd.R_ne HO_438005.out BK394.out (by decide))))); have n10_ := Aside0.mk (blk_kept (kZb BK395) hkp (fun hs_ => Or.elim hs_ (Kd.R_ne HO_438000.out BK395.out (by decide)) (fun e_ => Or.elim e_ (Kd.R_ne HO_438002.out BK395.out (by decide)) (Kd.R_ne HO_438005.out BK395.out (by decide))))); have n11_ := Aside0.mk (blk_kept (kZb BK424) hkp (fun hs_ => Or.elim hs_ (Kd.R_ne HO_438000.out BK424.out (by decide)) (fun e_ => Or.elim e_ (Kd.R_ne HO_438002.out BK424.out (by decide)) (Kd.R_ne HO_438005.out BK424.out (by decide))))); have n12_ := Aside0.mk (blk_kept (kZb BK437) hkp (fun hs_ => Or.elim hs_ (Kd.R_ne HO_438000.out BK437.out (by decide)) (fun e_ => Or.elim e_ (Kd.R_ne HO_438002.out BK437.out (by decide)) (Kd.R_ne HO_438005.out BK437.out (by decide))))); have n13_ := Aside0.mk (blk_kept (kZb BK453) hkp (fun hs_ => Or.elim hs_ (Kd.R_ne HO_438000.out BK453.out (by decide)) (fun e_ => Or.elim e_ (Kd.R_ne HO_438002.out BK453.out (by decide)) (Kd.R_ne HO_438005.out BK453.out (by decide))))); have n14_ := Aside0.mk (Kd.R_mono (ok' := fun k_ => some k_ ≠ (.slice Ao32 t411.length co32 : Value).ownBlock ∧ some k_ ≠ (.slice Ao45 t425.length co45 : Value).ownBlock ∧ some k_ ≠ (.slice Ao58 t440.length co58 : Value).ownBlock) (Kd.R_keptB ((Kd.R_apart' (Kd.R_apart' HO457.out (Kd.R_typed HO_438002.out) (by decide)) (Kd.R_typed HO_438005.out) (by decide))) hkp (fun k_ hk_ hs_ => Or.elim hs_ hk_.1.1.1.2 (fun e_ => Or.elim e_ hk_.1.2 hk_.2))) (fun k_ hk_ => ⟨hk_.1.1.1.1.1.2, hk_.1.1.1.1.2, hk_.1.1.1.2⟩)); have n15_ := Aside0.mk (Kd.R_mono (ok' := fun k_ => some k_ ≠ (.slice Ao35 t415.length co35 : Value).ownBlock ∧ some k_ ≠ (.slice Ao50 t429.length co50 : Value).ownBlock ∧ some k_ ≠ (.slice Ao61 t444.length co61 : Value).ownBlock) (Kd.R_keptB ((Kd.R_apart' (Kd.R_apart' HO461.out (Kd.R_typed HO_438000.out) (by decide)) (Kd.R_typed HO_438005.out) (by decide))) hkp (fun k_ hk_ hs_ => Or.elim hs_ hk_.1.2 (fun e_ => Or.elim e_ hk_.1.1.1.2 hk_.2))) (fun k_ hk_ => ⟨hk_.1.1.1.1.1.2, hk_.1.1.1.1.2, hk_.1.1.1.2⟩)); have n16_ := Aside0.mk (Kd.R_mono (ok' := fun k_ => some k_ ≠ (.slice Ao39 t420.length co39 : Value).ownBlock ∧ some k_ ≠ (.slice Ao51 t434.length co51 : Value).ownBlock ∧ some k_ ≠ (.slice Ao65 t449.length co65 : Value).ownBlock) (Kd.R_keptB ((Kd.R_apart' (Kd.R_apart' HO466.out (Kd.R_typed HO_438000.out) (by decide)) (Kd.R_typed HO_438002.out) (by decide))) hkp (fun k_ hk_ hs_ => Or.elim hs_ hk_.1.2 (fun e_ => Or.elim e_ hk_.2 hk_.1.1.1.2))) (fun k_ hk_ => ⟨hk_.1.1.1.1.1.2, hk_.1.1.1.1.2, hk_.1.1.1.2⟩)); have n17_ := Aside0.mk (hb); clear HO_425000; clear HO_425002; clear HO_425005; clear HO_438000; clear HO_438002; clear HO_438005; clear HO_454000; clear HO_454002; clear HO_454005; clear BK394; clear BK395; clear BK424; clear BK437; clear BK453; clear HO457; clear HO461; clear HO466; clear HB; have HO_425000 := n0_; have HO_425002 := n1_; have HO_425005 := n2_; have HO_438000 := n3_; have HO_438002 := n4_; have HO_438005 := n5_; have HO_454000 := n6_; have HO_454002 := n7_; have HO_454005 := n8_; have BK394 := n9_; have BK395 := n10_; have BK424 := n11_; have BK437 := n12_; have BK453 := n13_; have HO457 := n14_; have HO461 := n15_; have HO466 := n16_; have HB := n17_; clear n0_ n1_ n2_ n3_ n4_ n5_ n6_ n7_ n8_ n9_ n10_ n11_ n12_ n13_ n14_ n15_ n16_ n17_; (try clear hb); (try clear hkp); (try clear hy0); (try clear hy1); (try clear hy2)))
      (try simp only [Act.put, List.setIfInBounds_toArray, List.set_cons_zero, List.set_cons_succ])
      go_cut [71] (fun v71 wc => ∃ (kq : Nat) (x71_93 : Bool), v71 = .bool x71_93 ∧ Aside0 (laws_FnExactShopFault.j1 kq a2 t423 x71_93 l0_0 a0_1 l0_2 a0_3 a0_4 l0_5 a1_0 a1_1 t411 t414 t415 t418 t419 t420 t440 t443 t444 t447 t448 t449 = some r) ∧ Aside0 (kq ≤ kj16) ∧ Aside0 (Kd.R k100 100 wc w.heap.size (fun k_ => some k_ ≠ ((.slice Ao45 t425.length co45) : Value).ownBlock ∧ some k_ ≠ ((.slice Ao58 t440.length co58) : Value).ownBlock) (.slice Ao32 t411.length co32) t411) ∧ Aside0 (Kd.R (Kd.int .i64) 3 wc w.heap.size (fun k_ => some k_ ≠ ((.slice Ao50 t429.length co50) : Value).ownBlock ∧ some k_ ≠ ((.slice Ao61 t444.length co61) : Value).ownBlock) (.slice Ao35 t415.length co35) t415) ∧ Aside0 (Kd.R k61 61 wc w.heap.size (fun k_ => some k_ ≠ ((.slice Ao51 t434.length co51) : Value).ownBlock ∧ some k_ ≠ ((.slice Ao65 t449.length co65) : Value).ownBlock) (.slice Ao39 t420.length co39) t420) ∧ Aside0 (Kd.R k100 100 wc w.heap.size (fun k_ => some k_ ≠ ((.slice Ao32 t411.length co32) : Value).ownBlock ∧ some k_ ≠ ((.slice Ao58 t440.length co58) : Value).ownBlock) (.slice Ao45 t425.length co45) t469) ∧ Aside0 (Kd.R (Kd.int .i64) 3 wc w.heap.size (fun k_ => some k_ ≠ ((.slice Ao35 t415.length co35) : Value).ownBlock ∧ some k_ ≠ ((.slice Ao61 t444.length co61) : Value).ownBlock) (.slice Ao50 t429.length co50) t470) ∧ Aside0 (Kd.R k61 61 wc w.heap.size (fun k_ => some k_ ≠ ((.slice Ao39 t420.length co39) : Value).ownBlock ∧ some k_ ≠ ((.slice Ao65 t449.length co65) : Value).ownBlock) (.slice Ao51 t434.length co51) t471) ∧ Aside0 (Kd.R k100 100 wc w.heap.size (fun k_ => some k_ ≠ ((.slice Ao32 t411.length co32) : Value).ownBlock ∧ some k_ ≠ ((.slice Ao45 t425.length co45) : Value).ownBlock) (.slice Ao58 t440.length co58) t440) ∧ Aside0 (Kd.R (Kd.int .i64) 3 wc w.heap.size (fun k_ => some k_ ≠ ((.slice Ao35 t415.length co35) : Value).ownBlock ∧ some k_ ≠ ((.slice Ao50 t429.length co50) : Value).ownBlock) (.slice Ao61 t444.length co61) t444) ∧ Aside0 (Kd.R k61 61 wc w.heap.size (fun k_ => some k_ ≠ ((.slice Ao39 t420.length co39) : Value).ownBlock ∧ some k_ ≠ ((.slice Ao51 t434.length co51) : Value).ownBlock) (.slice Ao65 t449.length co65) t449) ∧ Aside0 (wc.heap[gb394]? = some (.cells #[(.slice A0_0 l0_0.length c0_0), .int .i64 a0_1, (.slice A0_2 l0_2.length c0_2), .int .i64 a0_3, .int .i64 a0_4, (.slice A0_5 l0_5.length c0_5)] 28 (0, 0))) ∧ Aside0 (wc.heap[gb395]? = some (.cells #[.int .i64 a1_0, .int .i64 a1_1] 30 (0, 0))) ∧ Aside0 (wc.heap[gb424]? = some (.cells #[(.slice Ao32 t411.length co32), .int .i64 t414, (.slice Ao35 t415.length co35), .int .i64 t418, .int .i64 t419, (.slice Ao39 t420.length co39)] 37 (0, 0))) ∧ Aside0 (wc.heap[gb437]? = some (.cells #[(.slice Ao45 t425.length co45), .int .i64 t428, (.slice Ao50 t429.length co50), .int .i64 t432, .int .i64 t433, (.slice Ao51 t434.length co51)] 37 (0, 0))) ∧ Aside0 (wc.heap[gb453]? = some (.cells #[(.slice Ao58 t440.length co58), .int .i64 t443, (.slice Ao61 t444.length co61), .int .i64 t447, .int .i64 t448, (.slice Ao65 t449.length co65)] 37 (0, 0))) ∧ Aside0 (Below w.heap.size w wc))
      case first =>
       have H := HC94.out
       clear HC94
       by_cases c107 : t468 < 0
       ·rw [if_pos c107] at H
        have c107b0 := decide_eq_true c107
        clear c107
        (first | rw [c107b0] | (simp only [i64_w, i32_w]; rw [c107b0]) | skip)
        have H' := Aside0.mk H
        clear H
        go_wp2
        go_meet
        case rel => exact ⟨_, (true), RF, H', ⟨by have := HJ16.out; first | omega | exact Nat.le_refl _⟩, ⟨rM HO_425000 (fun _ hk => ⟨hk.1, hk.2.1⟩)⟩, ⟨rM HO_425002 (fun _ hk => ⟨hk.1, hk.2.1⟩)⟩, ⟨rM HO_425005 (fun _ hk => ⟨hk.1, hk.2.1⟩)⟩, ⟨rM HO_438000 (fun _ hk => ⟨hk.1.1, hk.1.2⟩)⟩, ⟨rM HO_438002 (fun _ hk => ⟨hk.1.1, hk.1.2⟩)⟩, ⟨rM HO_438005 (fun _ hk => ⟨hk.1.1, hk.1.2⟩)⟩, ⟨rM HO_454000 (fun _ hk => ⟨hk.1, hk.2.1⟩)⟩, ⟨rM HO_454002 (fun _ hk => ⟨hk.1, hk.2.1⟩)⟩, ⟨rM HO_454005 (fun _ hk => ⟨hk.1, hk.2.1⟩)⟩, ⟨by (with_reducible repeat (first | refine blk_drewN ?_ _ | refine blk_drew ?_ | refine blk_alloc ?_ _)); exact BK394.out⟩, ⟨by (with_reducible repeat (first | refine blk_drewN ?_ _ | refine blk_drew ?_ | refine blk_alloc ?_ _)); exact BK395.out⟩, ⟨by (with_reducible repeat (first | refine blk_drewN ?_ _ | refine blk_drew ?_ | refine blk_alloc ?_ _)); exact BK424.out⟩, ⟨by (with_reducible repeat (first | refine blk_drewN ?_ _ | refine blk_drew ?_ | refine blk_alloc ?_ _)); exact BK437.out⟩, ⟨by (with_reducible repeat (first | refine blk_drewN ?_ _ | refine blk_drew ?_ | refine blk_alloc ?_ _)); exact BK453.out⟩, ⟨BB⟩⟩
       ·rw [if_neg c107] at H
        have c107b0 := decide_eq_false c107
        clear c107
        (first | rw [c107b0] | (simp only [i64_w, i32_w]; rw [c107b0]) | skip)
        obtain ⟨t472, A108, H⟩ := bsI H
        by_cases c109 : t472 = true
        ·subst c109
         rw [if_pos rfl] at H
         have H' := Aside0.mk H
         clear H
         have hnb110 := NB453_394.out
         have hnc110 := NB394_453.out
         have hnb111 := NB453_395.out
         have hnc111 := NB395_453.out
         have hnb112 := NB453_424.out
         have hnc112 := NB424_453.out
         have hnb113 := NB453_437.out
         have hnc113 := NB437_453.out
         obtain ⟨hcz114_0, hcz114_1, hcz114_2, hcz114_3, hcz114_4, hcz114_5, hfz114_0, hfz114_1, hfz114_2, hfz114_3, hfz114_4, hfz114_5⟩ := kZc6 BK453
         have hnb115 := NB424_394.out
         have hnc115 := NB394_424.out
         have hnb116 := NB424_395.out
         have hnc116 := NB395_424.out
         have hnb117 := NB424_437.out
         have hnc117 := NB437_424.out
         obtain ⟨hcz118_0, hcz118_1, hcz118_2, hcz118_3, hcz118_4, hcz118_5, hfz118_0, hfz118_1, hfz118_2, hfz118_3, hfz118_4, hfz118_5⟩ := kZc6 BK424
         go_wp2_with (first | (go_at_call 10; (with_reducible refine (laws_eqShop.calls kj16 _ _ t440 t443 _ _ t444 t447 t448 _ _ t449 _ _ t411 t414 _ _ t415 t418 t419 _ _ t420 true _ ?side1 ?side2 ?side3 ?side4 ?side5 ?side6 ?side7 ?side8 ?side9 ?side10 ?side11 ?side12 A108.out).mono ?_); (case side1 => exact rdC HO_454000); (case side2 => exact (rd1 HO_454000)); (case side3 => exact rdC HO_454002); (case side4 => exact (rd1 HO_454002)); (case side5 => exact rdC HO_454005); (case side6 => exact (rd1 HO_454005)); (case side7 => exact rdC HO_425000); (case side8 => exact (rd1 HO_425000)); (case side9 => exact rdC HO_425002); (case side10 => exact (rd1 HO_425002)); (case side11 => exact rdC HO_425005); (case side12 => exact (rd1 HO_425005)); rintro e w119 ⟨rfl, hb⟩; replace HO_425000 := rbB HO_425000 hb; replace HO_425002 := rbB HO_425002 hb; replace HO_425005 := rbB HO_425005 hb; replace HO_438000 := rbB HO_438000 hb; replace HO_438002 := rbB HO_438002 hb; replace HO_438005 := rbB HO_438005 hb; replace HO_454000 := rbB HO_454000 hb; replace HO_454002 := rbB HO_454002 hb; replace HO_454005 := rbB HO_454005 hb; replace HO457 := rbB HO457 hb; replace HO461 := rbB HO461 hb; replace HO466 := rbB HO466 hb; replace BK394 := kbB BK394 hb; replace BK395 := kbB BK395 hb; replace BK424 := kbB BK424 hb; replace BK437 := kbB BK437 hb; replace BK453 := kbB BK453 hb; replace HB := bbB hb; (try clear hb)))
         go_meet
         case rel => exact ⟨_, ((t452 != t423)), RF, H', ⟨by have := HJ16.out; first | omega | exact Nat.le_refl _⟩, ⟨rM HO_425000 (fun _ hk => ⟨hk.1, hk.2.1⟩)⟩, ⟨rM HO_425002 (fun _ hk => ⟨hk.1, hk.2.1⟩)⟩, ⟨rM HO_425005 (fun _ hk => ⟨hk.1, hk.2.1⟩)⟩, ⟨rM HO_438000 (fun _ hk => ⟨hk.1.1, hk.1.2⟩)⟩, ⟨rM HO_438002 (fun _ hk => ⟨hk.1.1, hk.1.2⟩)⟩, ⟨rM HO_438005 (fun _ hk => ⟨hk.1.1, hk.1.2⟩)⟩, ⟨rM HO_454000 (fun _ hk => ⟨hk.1, hk.2.1⟩)⟩, ⟨rM HO_454002 (fun _ hk => ⟨hk.1, hk.2.1⟩)⟩, ⟨rM HO_454005 (fun _ hk => ⟨hk.1, hk.2.1⟩)⟩, ⟨by (with_reducible repeat (first | refine blk_drewN ?_ _ | refine blk_drew ?_ | refine blk_alloc ?_ _)); exact BK394.out⟩, ⟨by (with_reducible repeat (first | refine blk_drewN ?_ _ | refine blk_drew ?_ | refine blk_alloc ?_ _)); exact BK395.out⟩, ⟨by (with_reducible repeat (first | refine blk_drewN ?_ _ | refine blk_drew ?_ | refine blk_alloc ?_ _)); exact BK424.out⟩, ⟨by (with_reducible repeat (first | refine blk_drewN ?_ _ | refine blk_drew ?_ | refine blk_alloc ?_ _)); exact BK437.out⟩, ⟨by (with_reducible repeat (first | refine blk_drewN ?_ _ | refine blk_drew ?_ | refine blk_alloc ?_ _)); exact BK453.out⟩, ⟨BB⟩⟩
        ·replace c109 := Bool.eq_false_iff.mpr c109
         subst c109
         rw [if_neg nft] at H
         have H' := Aside0.mk H
         clear H
         have hnb120 := NB453_394.out
         have hnc120 := NB394_453.out
         have hnb121 := NB453_395.out
         have hnc121 := NB395_453.out
         have hnb122 := NB453_424.out
         have hnc122 := NB424_453.out
         have hnb123 := NB453_437.out
         have hnc123 := NB437_453.out
         obtain ⟨hcz124_0, hcz124_1, hcz124_2, hcz124_3, hcz124_4, hcz124_5, hfz124_0, hfz124_1, hfz124_2, hfz124_3, hfz124_4, hfz124_5⟩ := kZc6 BK453
         have hnb125 := NB424_394.out
         have hnc125 := NB394_424.out
         have hnb126 := NB424_395.out
         have hnc126 := NB395_424.out
         have hnb127 := NB424_437.out
         have hnc127 := NB437_424.out
         obtain ⟨hcz128_0, hcz128_1, hcz128_2, hcz128_3, hcz128_4, hcz128_5, hfz128_0, hfz128_1, hfz128_2, hfz128_3, hfz128_4, hfz128_5⟩ := kZc6 BK424
         go_wp2_with (first | (go_at_call 10; (with_reducible refine (laws_eqShop.calls kj16 _ _ t440 t443 _ _ t444 t447 t448 _ _ t449 _ _ t411 t414 _ _ t415 t418 t419 _ _ t420 false _ ?side1 ?side2 ?side3 ?side4 ?side5 ?side6 ?side7 ?side8 ?side9 ?side10 ?side11 ?side12 A108.out).mono ?_); (case side1 => exact rdC HO_454000); (case side2 => exact (rd1 HO_454000)); (case side3 => exact rdC HO_454002); (case side4 => exact (rd1 HO_454002)); (case side5 => exact rdC HO_454005); (case side6 => exact (rd1 HO_454005)); (case side7 => exact rdC HO_425000); (case side8 => exact (rd1 HO_425000)); (case side9 => exact rdC HO_425002); (case side10 => exact (rd1 HO_425002)); (case side11 => exact rdC HO_425005); (case side12 => exact (rd1 HO_425005)); rintro e w129 ⟨rfl, hb⟩; replace HO_425000 := rbB HO_425000 hb; replace HO_425002 := rbB HO_425002 hb; replace HO_425005 := rbB HO_425005 hb; replace HO_438000 := rbB HO_438000 hb; replace HO_438002 := rbB HO_438002 hb; replace HO_438005 := rbB HO_438005 hb; replace HO_454000 := rbB HO_454000 hb; replace HO_454002 := rbB HO_454002 hb; replace HO_454005 := rbB HO_454005 hb; replace HO457 := rbB HO457 hb; replace HO461 := rbB HO461 hb; replace HO466 := rbB HO466 hb; replace BK394 := kbB BK394 hb; replace BK395 := kbB BK395 hb; replace BK424 := kbB BK424 hb; replace BK437 := kbB BK437 hb; replace BK453 := kbB BK453 hb; replace HB := bbB hb; (try clear hb)))
         go_meet
         case rel => exact ⟨_, (true), RF, H', ⟨by have := HJ16.out; first | omega | exact Nat.le_refl _⟩, ⟨rM HO_425000 (fun _ hk => ⟨hk.1, hk.2.1⟩)⟩, ⟨rM HO_425002 (fun _ hk => ⟨hk.1, hk.2.1⟩)⟩, ⟨rM HO_425005 (fun _ hk => ⟨hk.1, hk.2.1⟩)⟩, ⟨rM HO_438000 (fun _ hk => ⟨hk.1.1, hk.1.2⟩)⟩, ⟨rM HO_438002 (fun _ hk => ⟨hk.1.1, hk.1.2⟩)⟩, ⟨rM HO_438005 (fun _ hk => ⟨hk.1.1, hk.1.2⟩)⟩, ⟨rM HO_454000 (fun _ hk => ⟨hk.1, hk.2.1⟩)⟩, ⟨rM HO_454002 (fun _ hk => ⟨hk.1, hk.2.1⟩)⟩, ⟨rM HO_454005 (fun _ hk => ⟨hk.1, hk.2.1⟩)⟩, ⟨by (with_reducible repeat (first | refine blk_drewN ?_ _ | refine blk_drew ?_ | refine blk_alloc ?_ _)); exact BK394.out⟩, ⟨by (with_reducible repeat (first | refine blk_drewN ?_ _ | refine blk_drew ?_ | refine blk_alloc ?_ _)); exact BK395.out⟩, ⟨by (with_reducible repeat (first | refine blk_drewN ?_ _ | refine blk_drew ?_ | refine blk_alloc ?_ _)); exact BK424.out⟩, ⟨by (with_reducible repeat (first | refine blk_drewN ?_ _ | refine blk_drew ?_ | refine blk_alloc ?_ _)); exact BK437.out⟩, ⟨by (with_reducible repeat (first | refine blk_drewN ?_ _ | refine blk_drew ?_ | refine blk_alloc ?_ _)); exact BK453.out⟩, ⟨BB⟩⟩
      case rest =>
       clear HC94
       try clear c1
       try clear p2
       try clear c6
       try clear c7
       try clear c8
       try clear c9
       try clear c10
       try clear c11
       try clear c12
       try clear c68
       try clear c69
       try clear c70
       try clear c71
       try clear c72
       try clear c74
       try clear c75
       try clear c76
       try clear c79
       try clear c80
       try clear c81
       try clear c82
       try clear c84
       try clear c85
       try clear c86
       try clear c89
       try clear c92
       try clear c101
       try clear c102
       try clear c103
       try clear c104
       try clear c107
       try clear c107b0
       try clear c109
       try clear c110
       try clear c111
       try clear c112
       try clear c113
       try clear c115
       try clear c116
       try clear c117
       try clear c120
       try clear c121
       try clear c122
       try clear c123
       try clear c125
       try clear c126
       try clear c127
       try clear hcz105_0
       try clear hcz105_1
       try clear hcz105_2
       try clear hcz105_3
       try clear hcz105_4
       try clear hcz105_5
       try clear hcz114_0
       try clear hcz114_1
       try clear hcz114_2
       try clear hcz114_3
       try clear hcz114_4
       try clear hcz114_5
       try clear hcz118_0
       try clear hcz118_1
       try clear hcz118_2
       try clear hcz118_3
       try clear hcz118_4
       try clear hcz118_5
       try clear hcz124_0
       try clear hcz124_1
       try clear hcz124_2
       try clear hcz124_3
       try clear hcz124_4
       try clear hcz124_5
       try clear hcz128_0
       try clear hcz128_1
       try clear hcz128_2
       try clear hcz128_3
       try clear hcz128_4
       try clear hcz128_5
       try clear hcz73_0
       try clear hcz73_1
       try clear hcz73_2
       try clear hcz73_3
       try clear hcz73_4
       try clear hcz73_5
       try clear hcz77_0
       try clear hcz77_1
       try clear hcz77_2
       try clear hcz77_3
       try clear hcz77_4
       try clear hcz77_5
       try clear hcz83_0
       try clear hcz83_1
       try clear hcz83_2
       try clear hcz83_3
       try clear hcz83_4
       try clear hcz83_5
       try clear hcz87_0
       try clear hcz87_1
       try clear hcz87_2
       try clear hcz87_3
       try clear hcz87_4
       try clear hcz87_5
       try clear hfz105_0
       try clear hfz105_1
       try clear hfz105_2
       try clear hfz105_3
       try clear hfz105_4
       try clear hfz105_5
       try clear hfz114_0
       try clear hfz114_1
       try clear hfz114_2
       try clear hfz114_3
       try clear hfz114_4
       try clear hfz114_5
       try clear hfz118_0
       try clear hfz118_1
       try clear hfz118_2
       try clear hfz118_3
       try clear hfz118_4
       try clear hfz118_5
       try clear hfz124_0
       try clear hfz124_1
       try clear hfz124_2
       try clear hfz124_3
       try clear hfz124_4
       try clear hfz124_5
       try clear hfz128_0
       try clear hfz128_1
       try clear hfz128_2
       try clear hfz128_3
       try clear hfz128_4
       try clear hfz128_5
       try clear hfz73_0
       try clear hfz73_1
       try clear hfz73_2
       try clear hfz73_3
       try clear hfz73_4
       try clear hfz73_5
       try clear hfz77_0
       try clear hfz77_1
       try clear hfz77_2
       try clear hfz77_3
       try clear hfz77_4
       try clear hfz77_5
       try clear hfz83_0
       try clear hfz83_1
       try clear hfz83_2
       try clear hfz83_3
       try clear hfz83_4
       try clear hfz83_5
       try clear hfz87_0
       try clear hfz87_1
       try clear hfz87_2
       try clear hfz87_3
       try clear hfz87_4
       try clear hfz87_5
       try clear p2
       obtain ⟨kq, x71_93, rfl, HA, HJ93, HO_425000, HO_425002, HO_425005, HO_438000, HO_438002, HO_438005, HO_454000, HO_454002, HO_454005, BK394, BK395, BK424, BK437, BK453, HB⟩ := hcut
       have hl438000_93 := (Kd.R_reads' HO_438000.out).1
       rw [hl438000_93] at HO_438000
       (try simp only [hl438000_93])
       (try simp only [hl438000_93] at BK394)
       (try simp only [hl438000_93] at BK395)
       (try simp only [hl438000_93] at BK424)
       (try simp only [hl438000_93] at BK437)
       (try simp only [hl438000_93] at BK453)
       (try simp only [hl438000_93] at HO_425000)
       (try simp only [hl438000_93] at HO_425002)
       (try simp only [hl438000_93] at HO_425005)
       (try simp only [hl438000_93] at HO_438002)
       (try simp only [hl438000_93] at HO_438005)
       (try simp only [hl438000_93] at HO_454000)
       (try simp only [hl438000_93] at HO_454002)
       (try simp only [hl438000_93] at HO_454005)
       have hl438002_93 := (Kd.R_reads' HO_438002.out).1
       rw [hl438002_93] at HO_438002
       (try simp only [hl438002_93])
       (try simp only [hl438002_93] at BK394)
       (try simp only [hl438002_93] at BK395)
       (try simp only [hl438002_93] at BK424)
       (try simp only [hl438002_93] at BK437)
       (try simp only [hl438002_93] at BK453)
       (try simp only [hl438002_93] at HO_425000)
       (try simp only [hl438002_93] at HO_425002)
       (try simp only [hl438002_93] at HO_425005)
       (try simp only [hl438002_93] at HO_438000)
       (try simp only [hl438002_93] at HO_438005)
       (try simp only [hl438002_93] at HO_454000)
       (try simp only [hl438002_93] at HO_454002)
       (try simp only [hl438002_93] at HO_454005)
       have hl438005_93 := (Kd.R_reads' HO_438005.out).1
       rw [hl438005_93] at HO_438005
       (try simp only [hl438005_93])
       (try simp only [hl438005_93] at BK394)
       (try simp only [hl438005_93] at BK395)
       (try simp only [hl438005_93] at BK424)
       (try simp only [hl438005_93] at BK437)
       (try simp only [hl438005_93] at BK453)
       (try simp only [hl438005_93] at HO_425000)
       (try simp only [hl438005_93] at HO_425002)
       (try simp only [hl438005_93] at HO_425005)
       (try simp only [hl438005_93] at HO_438000)
       (try simp only [hl438005_93] at HO_438002)
       (try simp only [hl438005_93] at HO_454000)
       (try simp only [hl438005_93] at HO_454002)
       (try simp only [hl438005_93] at HO_454005)
       cases kq with
       | zero => exact absurd HA.out (by simp [laws_FnExactShopFault.j1])
       | succ kj93 =>
        have H := HA.out
        clear HA
        simp only [laws_FnExactShopFault.j1] at H
        by_cases c130 : x71_93 = true
        ·subst c130
         rw [if_pos rfl] at H
         obtain rfl := Option.some.inj H
         go_wp2
         go_ret
         exact ⟨EV, BB⟩
        ·replace c130 := Bool.eq_false_iff.mpr c130
         subst c130
         rw [if_neg nft] at H
         obtain ⟨⟨t473, t474, t475, t476⟩, A131, H⟩ := bsI H
         dsimp only at H
         obtain ⟨t477, A132, H⟩ := bsI H
         by_cases c133 : t477 < 0
         ·rw [if_pos c133] at H
          have c133b0 := decide_eq_true c133
          clear c133
          obtain rfl := Option.some.inj H
          have hnb134 := NB453_394.out
          have hnc134 := NB394_453.out
          have hnb135 := NB453_395.out
          have hnc135 := NB395_453.out
          have hnb136 := NB453_424.out
          have hnc136 := NB424_453.out
          have hnb137 := NB453_437.out
          have hnc137 := NB437_453.out
          obtain ⟨hcz138_0, hcz138_1, hcz138_2, hcz138_3, hcz138_4, hcz138_5, hfz138_0, hfz138_1, hfz138_2, hfz138_3, hfz138_4, hfz138_5⟩ := kZc6 BK453
          go_wp2_with (first | ((with_reducible refine gZc 11 (h := ?_)); refine gL 74 Try.func11 #[.agg #[.slice Ao58 t440.length co58, .int .i64 t443, .slice Ao61 t444.length co61, .int .i64 t447, .int .i64 t448, .slice Ao65 t449.length co65], .int .i64 1] ?_; (with_reducible refine (laws_markShop.calls kj93 (fun k_ => some k_ = (.slice Ao58 t440.length co58 : Value).ownBlock) (.slice Ao58 t440.length co58) t440 t443 (fun k_ => some k_ = (.slice Ao61 t444.length co61 : Value).ownBlock) (.slice Ao61 t444.length co61) t444 t447 t448 (fun k_ => some k_ = (.slice Ao65 t449.length co65 : Value).ownBlock) (.slice Ao65 t449.length co65) t449 1 t473 t474 t475 t476 w _ ?side1 ?side2 ?side3 ?side4 A131.out).mono ?_); (case side1 => repeat (first | (with_reducible first | exact HB.out | apply below_alloc | apply pw_below_drewN | apply below_drew1 | refine below_set ?_ GE394.out | refine below_set ?_ GE395.out | refine below_set ?_ GE424.out | refine below_set ?_ GE437.out | refine below_set ?_ GE453.out) | exact HB.out)); (case side2 => exact Kd.R_tight rfl HO_454000.out); (case side3 => exact Kd.R_tight rfl HO_454002.out); (case side4 => exact Kd.R_tight rfl HO_454005.out); rintro e w139 ⟨rfl, hy0, hy1, hy2, hb, hkp⟩; refine ⟨_, rfl, ?_⟩; replace HO_425000 := Aside0.mk (Kd.R_mono (ok' := fun k_ => some k_ ≠ (.slice Ao45 t469.length co45 : Value).ownBlock ∧ some k_ ≠ (.slice Ao58 t440.length co58 : Value).ownBlock) (Kd.R_keptB ((Kd.R_apart' (Kd.R_apart' HO_425000.out (Kd.R_typed HO_454002.out) (by decide)) (Kd.R_typed HO_454005.out) (by decide))) hkp (fun k_ hk_ hs_ => Or.elim hs_ hk_.1.1.2 (fun e_ => Or.elim e_ hk_.1.2 hk_.2))) (fun k_ hk_ => ⟨hk_.1.1.1.1, hk_.1.1.1.2⟩)); replace HO_425002 := Aside0.mk (Kd.R_mono (ok' := fun k_ => some k_ ≠ (.slice Ao50 t470.length co50 : Value).ownBlock ∧ some k_ ≠ (.slice Ao61 t444.length co61 : Value).ownBlock) (Kd.R_keptB ((Kd.R_apart' (Kd.R_apart' HO_425002.out (Kd.R_typed HO_454000.out) (by decide)) (Kd.R_typed HO_454005.out) (by decide))) hkp (fun k_ hk_ hs_ => Or.elim hs_ hk_.1.2 (fun e_ => Or.elim e_ hk_.1.1.2 hk_.2))) (fun k_ hk_ => ⟨hk_.1.1.1.1, hk_.1.1.1.2⟩)); replace HO_425005 := Aside0.mk (Kd.R_mono (ok' := fun k_ => some k_ ≠ (.slice Ao51 t471.length co51 : Value).ownBlock ∧ some k_ ≠ (.slice Ao65 t449.length co65 : Value).ownBlock) (Kd.R_keptB ((Kd.R_apart' (Kd.R_apart' HO_425005.out (Kd.R_typed HO_454000.out) (by decide)) (Kd.R_typed HO_454002.out) (by decide))) hkp (fun k_ hk_ hs_ => Or.elim hs_ hk_.1.2 (fun e_ => Or.elim e_ hk_.2 hk_.1.1.2))) (fun k_ hk_ => ⟨hk_.1.1.1.1, hk_.1.1.1.2⟩)); replace HO_438000 := Aside0.mk (Kd.R_mono (ok' := fun k_ => some k_ ≠ (.slice Ao32 t411.length co32 : Value).ownBlock ∧ some k_ ≠ (.slice Ao58 t440.length co58 : Value).ownBlock) (Kd.R_keptB ((Kd.R_apart' (Kd.R_apart' HO_438000.out (Kd.R_typed HO_454002.out) (by decide)) (Kd.R_typed HO_454005.out) (by decide))) hkp (fun k_ hk_ hs_ => Or.elim hs_ hk_.1.1.2 (fun e_ => Or.elim e_ hk_.1.2 hk_.2))) (fun k_ hk_ => ⟨hk_.1.1.1.1, hk_.1.1.1.2⟩)); replace HO_438002 := Aside0.mk (Kd.R_mono (ok' := fun k_ => some k_ ≠ (.slice Ao35 t415.length co35 : Value).ownBlock ∧ some k_ ≠ (.slice Ao61 t444.length co61 : Value).ownBlock) (Kd.R_keptB ((Kd.R_apart' (Kd.R_apart' HO_438002.out (Kd.R_typed HO_454000.out) (by decide)) (Kd.R_typed HO_454005.out) (by decide))) hkp (fun k_ hk_ hs_ => Or.elim hs_ hk_.1.2 (fun e_ => Or.elim e_ hk_.1.1.2 hk_.2))) (fun k_ hk_ => ⟨hk_.1.1.1.1, hk_.1.1.1.2⟩)); replace HO_438005 := Aside0.mk (Kd.R_mono (ok' := fun k_ => some k_ ≠ (.slice Ao39 t420.length co39 : Value).ownBlock ∧ some k_ ≠ (.slice Ao65 t449.length co65 : Value).ownBlock) (Kd.R_keptB ((Kd.R_apart' (Kd.R_apart' HO_438005.out (Kd.R_typed HO_454000.out) (by decide)) (Kd.R_typed HO_454002.out) (by decide))) hkp (fun k_ hk_ hs_ => Or.elim hs_ hk_.1.2 (fun e_ => Or.elim e_ hk_.2 hk_.1.1.2))) (fun k_ hk_ => ⟨hk_.1.1.1.1, hk_.1.1.1.2⟩)); replace BK394 := Aside0.mk (blk_kept (kZb BK394) hkp (fun hs_ => Or.elim hs_ (Kd.R_ne HO_454000.out BK394.out (by decide)) (fun e_ => Or.elim e_ (Kd.R_ne HO_454002.out BK394.out (by decide)) (Kd.R_ne HO_454005.out BK394.out (by decide))))); replace BK395 := Aside0.mk (blk_kept (kZb BK395) hkp (fun hs_ => Or.elim hs_ (Kd.R_ne HO_454000.out BK395.out (by decide)) (fun e_ => Or.elim e_ (Kd.R_ne HO_454002.out BK395.out (by decide)) (Kd.R_ne HO_454005.out BK395.out (by decide))))); replace BK424 := Aside0.mk (blk_kept (kZb BK424) hkp (fun hs_ => Or.elim hs_ (Kd.R_ne HO_454000.out BK424.out (by decide)) (fun e_ => Or.elim e_ (Kd.R_ne HO_454002.out BK424.out (by decide)) (Kd.R_ne HO_454005.out BK424.out (by decide))))); replace BK437 := Aside0.mk (blk_kept (kZb BK437) hkp (fun hs_ => Or.elim hs_ (Kd.R_ne HO_454000.out BK437.out (by decide)) (fun e_ => Or.elim e_ (Kd.R_ne HO_454002.out BK437.out (by decide)) (Kd.R_ne HO_454005.out BK437.out (by decide))))); replace BK453 := Aside0.mk (blk_kept (kZb BK453) hkp (fun hs_ => Or.elim hs_ (Kd.R_ne HO_454000.out BK453.out (by decide)) (fun e_ => Or.elim e_ (Kd.R_ne HO_454002.out BK453.out (by decide)) (Kd.R_ne HO_454005.out BK453.out (by decide))))); replace HO_454000 := Aside0.mk (Kd.R_reok rfl hy0 (fun k_ e_ => HO_454000.out.1 k_ e_)); replace HO_454002 := Aside0.mk (Kd.R_reok rfl hy1 (fun k_ e_ => HO_454002.out.1 k_ e_)); replace HO_454005 := Aside0.mk (Kd.R_reok rfl hy2 (fun k_ e_ => HO_454005.out.1 k_ e_)); replace HB := Aside0.mk (hb); (try clear hb); (try clear hkp); (try clear hy0); (try clear hy1); (try clear hy2); obtain ⟨hcz140_0, hcz140_1, hcz140_2, hcz140_3, hcz140_4, hcz140_5, hfz140_0, hfz140_1, hfz140_2, hfz140_3, hfz140_4, hfz140_5⟩ := kZc6 BK453) | ((with_reducible refine gate_callee (f := 12) rfl ?_); refine goesL_ (some 77) rfl rfl Try.func12 (by kernel_rfl) rfl #[.agg #[.slice Ao58 t474.length co58, .int .i64 t443, .slice Ao61 t475.length co61, .int .i64 t447, .int .i64 t448, .slice Ao65 t476.length co65], .int .i64 1] rfl (by (try simp only [List.map_toArray, List.map_cons, List.map_nil]); first | done | (rw [show t474.length = t440.length from (rd0 HO_454000), show t475.length = t444.length from (rd0 HO_454002), show t476.length = t449.length from (rd0 HO_454005)] <;> rfl) | rfl | (simp only [List.length_drop, List.length_take]; rfl)) ?_; (with_reducible refine (laws_heldShop.calls kj93 _ _ t474 t443 _ _ t475 t447 t448 _ _ t476 1 t477 _ ?side1 ?side2 ?side3 ?side4 ?side5 ?side6 A132.out).mono ?_); (case side1 => exact rdC HO_454000); (case side2 => rw [show t474.length = t440.length from (rd0 HO_454000)]; exact (rd1 HO_454000)); (case side3 => exact rdC HO_454002); (case side4 => rw [show t475.length = t444.length from (rd0 HO_454002)]; exact (rd1 HO_454002)); (case side5 => exact rdC HO_454005); (case side6 => rw [show t476.length = t449.length from (rd0 HO_454005)]; exact (rd1 HO_454005)); rintro e w141 ⟨rfl, hb⟩; refine ⟨_, rfl, ?_⟩; replace HO_425000 := rbB HO_425000 hb; replace HO_425002 := rbB HO_425002 hb; replace HO_425005 := rbB HO_425005 hb; replace HO_438000 := rbB HO_438000 hb; replace HO_438002 := rbB HO_438002 hb; replace HO_438005 := rbB HO_438005 hb; replace HO_454000 := rbB HO_454000 hb; replace HO_454002 := rbB HO_454002 hb; replace HO_454005 := rbB HO_454005 hb; replace BK394 := kbB BK394 hb; replace BK395 := kbB BK395 hb; replace BK424 := kbB BK424 hb; replace BK437 := kbB BK437 hb; replace BK453 := kbB BK453 hb; replace HB := bbB hb; (try clear hb)))
          go_ret
          exact ⟨EV, BB⟩
         ·rw [if_neg c133] at H
          have c133b0 := decide_eq_false c133
          clear c133
          by_cases c142 : t477 = t473
          ·rw [if_pos c142] at H
           have c142b0 := beqT c142
           have c142b1 := bneF c142
           clear c142
           obtain ⟨⟨t478, t481, t482, t485, t486, t487⟩, A143, H⟩ := bsI H
           dsimp only at H
           obtain ⟨⟨t490, t491⟩, A144, H⟩ := bsI H
           dsimp only at H
           obtain ⟨⟨t492, t495, t496, t499, t500, t501, t504⟩, A145, H⟩ := bsI H
           dsimp only at H
           have HC146 := Aside0.mk H
           clear H
           have hnb147 := NB453_394.out
           have hnc147 := NB394_453.out
           have hnb148 := NB453_395.out
           have hnc148 := NB395_453.out
           have hnb149 := NB453_424.out
           have hnc149 := NB424_453.out
           have hnb150 := NB453_437.out
           have hnc150 := NB437_453.out
           obtain ⟨hcz151_0, hcz151_1, hcz151_2, hcz151_3, hcz151_4, hcz151_5, hfz151_0, hfz151_1, hfz151_2, hfz151_3, hfz151_4, hfz151_5⟩ := kZc6 BK453
           try go_wp2_with (first | ((with_reducible refine gZc 11 (h := ?_)); refine gL 74 Try.func11 #[.agg #[.slice Ao58 t440.length co58, .int .i64 t443, .slice Ao61 t444.length co61, .int .i64 t447, .int .i64 t448, .slice Ao65 t449.length co65], .int .i64 1] ?_; (with_reducible refine (laws_markShop.calls kj93 (fun k_ => some k_ = (.slice Ao58 t440.length co58 : Value).ownBlock) (.slice Ao58 t440.length co58) t440 t443 (fun k_ => some k_ = (.slice Ao61 t444.length co61 : Value).ownBlock) (.slice Ao61 t444.length co61) t444 t447 t448 (fun k_ => some k_ = (.slice Ao65 t449.length co65 : Value).ownBlock) (.slice Ao65 t449.length co65) t449 1 t473 t474 t475 t476 w _ ?side1 ?side2 ?side3 ?side4 A131.out).mono ?_); (case side1 => repeat (first | (with_reducible first | exact HB.out | apply below_alloc | apply pw_below_drewN | apply below_drew1 | refine below_set ?_ GE394.out | refine below_set ?_ GE395.out | refine below_set ?_ GE424.out | refine below_set ?_ GE437.out | refine below_set ?_ GE453.out) | exact HB.out)); (case side2 => exact Kd.R_tight rfl HO_454000.out); (case side3 => exact Kd.R_tight rfl HO_454002.out); (case side4 => exact Kd.R_tight rfl HO_454005.out); rintro e w152 ⟨rfl, hy0, hy1, hy2, hb, hkp⟩; refine ⟨_, rfl, ?_⟩; replace HO_425000 := Aside0.mk (Kd.R_mono (ok' := fun k_ => some k_ ≠ (.slice Ao45 t469.length co45 : Value).ownBlock ∧ some k_ ≠ (.slice Ao58 t440.length co58 : Value).ownBlock) (Kd.R_keptB ((Kd.R_apart' (Kd.R_apart' HO_425000.out (Kd.R_typed HO_454002.out) (by decide)) (Kd.R_typed HO_454005.out) (by decide))) hkp (fun k_ hk_ hs_ => Or.elim hs_ hk_.1.1.2 (fun e_ => Or.elim e_ hk_.1.2 hk_.2))) (fun k_ hk_ => ⟨hk_.1.1.1.1, hk_.1.1.1.2⟩)); replace HO_425002 := Aside0.mk (Kd.R_mono (ok' := fun k_ => some k_ ≠ (.slice Ao50 t470.length co50 : Value).ownBlock ∧ some k_ ≠ (.slice Ao61 t444.length co61 : Value).ownBlock) (Kd.R_keptB ((Kd.R_apart' (Kd.R_apart' HO_425002.out (Kd.R_typed HO_454000.out) (by decide)) (Kd.R_typed HO_454005.out) (by decide))) hkp (fun k_ hk_ hs_ => Or.elim hs_ hk_.1.2 (fun e_ => Or.elim e_ hk_.1.1.2 hk_.2))) (fun k_ hk_ => ⟨hk_.1.1.1.1, hk_.1.1.1.2⟩)); replace HO_425005 := Aside0.mk (Kd.R_mono (ok' := fun k_ => some k_ ≠ (.slice Ao51 t471.length co51 : Value).ownBlock ∧ some k_ ≠ (.slice Ao65 t449.length co65 : Value).ownBlock) (Kd.R_keptB ((Kd.R_apart' (Kd.R_apart' HO_425005.out (Kd.R_typed HO_454000.out) (by decide)) (Kd.R_typed HO_454002.out) (by decide))) hkp (fun k_ hk_ hs_ => Or.elim hs_ hk_.1.2 (fun e_ => Or.elim e_ hk_.2 hk_.1.1.2))) (fun k_ hk_ => ⟨hk_.1.1.1.1, hk_.1.1.1.2⟩)); replace HO_438000 := Aside0.mk (Kd.R_mono (ok' := fun k_ => some k_ ≠ (.slice Ao32 t411.length co32 : Value).ownBlock ∧ some k_ ≠ (.slice Ao58 t440.length co58 : Value).ownBlock) (Kd.R_keptB ((Kd.R_apart' (Kd.R_apart' HO_438000.out (Kd.R_typed HO_454002.out) (by decide)) (Kd.R_typed HO_454005.out) (by decide))) hkp (fun k_ hk_ hs_ => Or.elim hs_ hk_.1.1.2 (fun e_ => Or.elim e_ hk_.1.2 hk_.2))) (fun k_ hk_ => ⟨hk_.1.1.1.1, hk_.1.1.1.2⟩)); replace HO_438002 := Aside0.mk (Kd.R_mono (ok' := fun k_ => some k_ ≠ (.slice Ao35 t415.length co35 : Value).ownBlock ∧ some k_ ≠ (.slice Ao61 t444.length co61 : Value).ownBlock) (Kd.R_keptB ((Kd.R_apart' (Kd.R_apart' HO_438002.out (Kd.R_typed HO_454000.out) (by decide)) (Kd.R_typed HO_454005.out) (by decide))) hkp (fun k_ hk_ hs_ => Or.elim hs_ hk_.1.2 (fun e_ => Or.elim e_ hk_.1.1.2 hk_.2))) (fun k_ hk_ => ⟨hk_.1.1.1.1, hk_.1.1.1.2⟩)); replace HO_438005 := Aside0.mk (Kd.R_mono (ok' := fun k_ => some k_ ≠ (.slice Ao39 t420.length co39 : Value).ownBlock ∧ some k_ ≠ (.slice Ao65 t449.length co65 : Value).ownBlock) (Kd.R_keptB ((Kd.R_apart' (Kd.R_apart' HO_438005.out (Kd.R_typed HO_454000.out) (by decide)) (Kd.R_typed HO_454002.out) (by decide))) hkp (fun k_ hk_ hs_ => Or.elim hs_ hk_.1.2 (fun e_ => Or.elim e_ hk_.2 hk_.1.1.2))) (fun k_ hk_ => ⟨hk_.1.1.1.1, hk_.1.1.1.2⟩)); replace BK394 := Aside0.mk (blk_kept (kZb BK394) hkp (fun hs_ => Or.elim hs_ (Kd.R_ne HO_454000.out BK394.out (by decide)) (fun e_ => Or.elim e_ (Kd.R_ne HO_454002.out BK394.out (by decide)) (Kd.R_ne HO_454005.out BK394.out (by decide))))); replace BK395 := Aside0.mk (blk_kept (kZb BK395) hkp (fun hs_ => Or.elim hs_ (Kd.R_ne HO_454000.out BK395.out (by decide)) (fun e_ => Or.elim e_ (Kd.R_ne HO_454002.out BK395.out (by decide)) (Kd.R_ne HO_454005.out BK395.out (by decide))))); replace BK424 := Aside0.mk (blk_kept (kZb BK424) hkp (fun hs_ => Or.elim hs_ (Kd.R_ne HO_454000.out BK424.out (by decide)) (fun e_ => Or.elim e_ (Kd.R_ne HO_454002.out BK424.out (by decide)) (Kd.R_ne HO_454005.out BK424.out (by decide))))); replace BK437 := Aside0.mk (blk_kept (kZb BK437) hkp (fun hs_ => Or.elim hs_ (Kd.R_ne HO_454000.out BK437.out (by decide)) (fun e_ => Or.elim e_ (Kd.R_ne HO_454002.out BK437.out (by decide)) (Kd.R_ne HO_454005.out BK437.out (by decide))))); replace BK453 := Aside0.mk (blk_kept (kZb BK453) hkp (fun hs_ => Or.elim hs_ (Kd.R_ne HO_454000.out BK453.out (by decide)) (fun e_ => Or.elim e_ (Kd.R_ne HO_454002.out BK453.out (by decide)) (Kd.R_ne HO_454005.out BK453.out (by decide))))); replace HO_454000 := Aside0.mk (Kd.R_reok rfl hy0 (fun k_ e_ => HO_454000.out.1 k_ e_)); replace HO_454002 := Aside0.mk (Kd.R_reok rfl hy1 (fun k_ e_ => HO_454002.out.1 k_ e_)); replace HO_454005 := Aside0.mk (Kd.R_reok rfl hy2 (fun k_ e_ => HO_454005.out.1 k_ e_)); replace HB := Aside0.mk (hb); (try clear hb); (try clear hkp); (try clear hy0); (try clear hy1); (try clear hy2); obtain ⟨hcz153_0, hcz153_1, hcz153_2, hcz153_3, hcz153_4, hcz153_5, hfz153_0, hfz153_1, hfz153_2, hfz153_3, hfz153_4, hfz153_5⟩ := kZc6 BK453) | ((with_reducible refine gate_callee (f := 12) rfl ?_); refine goesL_ (some 77) rfl rfl Try.func12 (by kernel_rfl) rfl #[.agg #[.slice Ao58 t474.length co58, .int .i64 t443, .slice Ao61 t475.length co61, .int .i64 t447, .int .i64 t448, .slice Ao65 t476.length co65], .int .i64 1] rfl (by (try simp only [List.map_toArray, List.map_cons, List.map_nil]); first | done | (rw [show t474.length = t440.length from (rd0 HO_454000), show t475.length = t444.length from (rd0 HO_454002), show t476.length = t449.length from (rd0 HO_454005)] <;> rfl) | rfl | (simp only [List.length_drop, List.length_take]; rfl)) ?_; (with_reducible refine (laws_heldShop.calls kj93 _ _ t474 t443 _ _ t475 t447 t448 _ _ t476 1 t477 _ ?side1 ?side2 ?side3 ?side4 ?side5 ?side6 A132.out).mono ?_); (case side1 => exact rdC HO_454000); (case side2 => rw [show t474.length = t440.length from (rd0 HO_454000)]; exact (rd1 HO_454000)); (case side3 => exact rdC HO_454002); (case side4 => rw [show t475.length = t444.length from (rd0 HO_454002)]; exact (rd1 HO_454002)); (case side5 => exact rdC HO_454005); (case side6 => rw [show t476.length = t449.length from (rd0 HO_454005)]; exact (rd1 HO_454005)); rintro e w154 ⟨rfl, hb⟩; refine ⟨_, rfl, ?_⟩; replace HO_425000 := rbB HO_425000 hb; replace HO_425002 := rbB HO_425002 hb; replace HO_425005 := rbB HO_425005 hb; replace HO_438000 := rbB HO_438000 hb; replace HO_438002 := rbB HO_438002 hb; replace HO_438005 := rbB HO_438005 hb; replace HO_454000 := rbB HO_454000 hb; replace HO_454002 := rbB HO_454002 hb; replace HO_454005 := rbB HO_454005 hb; replace BK394 := kbB BK394 hb; replace BK395 := kbB BK395 hb; replace BK424 := kbB BK424 hb; replace BK437 := kbB BK437 hb; replace BK453 := kbB BK453 hb; replace HB := bbB hb; (try clear hb)))
           replace HO_425000 := Aside0.mk (Kd.R_drew HO_425000.out)
           replace HO_425002 := Aside0.mk (Kd.R_drew HO_425002.out)
           replace HO_425005 := Aside0.mk (Kd.R_drew HO_425005.out)
           replace HO_438000 := Aside0.mk (Kd.R_drew HO_438000.out)
           replace HO_438002 := Aside0.mk (Kd.R_drew HO_438002.out)
           replace HO_438005 := Aside0.mk (Kd.R_drew HO_438005.out)
           replace HO_454000 := Aside0.mk (Kd.R_drew HO_454000.out)
           replace HO_454002 := Aside0.mk (Kd.R_drew HO_454002.out)
           replace HO_454005 := Aside0.mk (Kd.R_drew HO_454005.out)
           replace BK394 := Aside0.mk (blk_drew BK394.out)
           replace BK395 := Aside0.mk (blk_drew BK395.out)
           replace BK424 := Aside0.mk (blk_drew BK424.out)
           replace BK437 := Aside0.mk (blk_drew BK437.out)
           replace BK453 := Aside0.mk (blk_drew BK453.out)
           replace HB := Aside0.mk (below_drew1 HB.out)
           refine start_ (n := 12) (S := fun w' => w'.cell? ⟨gb394, 0, none⟩ = some (.slice A0_0 l0_0.length c0_0) ∧ w'.cell? ⟨gb394, 1, none⟩ = some (.int .i64 a0_1) ∧ w'.cell? ⟨gb394, 2, none⟩ = some (.slice A0_2 l0_2.length c0_2) ∧ w'.cell? ⟨gb394, 3, none⟩ = some (.int .i64 a0_3) ∧ w'.cell? ⟨gb394, 4, none⟩ = some (.int .i64 a0_4) ∧ w'.cell? ⟨gb394, 5, none⟩ = some (.slice A0_5 l0_5.length c0_5) ∧ w'.cell? ⟨gb395, 0, none⟩ = some (.int .i64 a1_0) ∧ w'.cell? ⟨gb395, 1, none⟩ = some (.int .i64 a1_1)) (ds := []) (Array.replicate 12 false) (by kernel_rfl) rfl rfl ⟨kZc BK394 0, kZc BK394 1, kZc BK394 2, kZc BK394 3, kZc BK394 4, kZc BK394 5, kZc BK395 0, kZc BK395 1⟩ (fun hHeld => ?_); refine with_tabW laws_FnExactShopFault.tab24 laws_FnExactShopFault.bits24 (fun HT_ HW_ => ?_)
           generalize w154.drew = w155 at HO_425000 HO_425002 HO_425005 HO_438000 HO_438002 HO_438005 HO_454000 HO_454002 HO_454005 BK394 BK395 BK424 BK437 BK453 HB hHeld ⊢
           refine pZu 4 88 HT_ (h := ?_)
           refine tZk 0 84 HT_ HW_ hHeld (h := ?_)
           refine tZk 2 86 HT_ HW_ hHeld (h := ?_)
           refine join_ (σ := Value × Value × Value × Value × Value × Value × Nat) 2 #[true, true, true, true, true, true, true, true, true, true, false, false] (fun s_ => [(85, .agg #[s_.1, .int .i64 t481, s_.2.1, .int .i64 t485, .int .i64 t486, s_.2.2.1]), (87, .agg #[.int .i64 t490, .int .i64 t491]), (89, .tuple #[.agg #[s_.2.2.2.1, .int .i64 t495, s_.2.2.2.2.1, .int .i64 t499, .int .i64 t500, s_.2.2.2.2.2.1], .bool t504]), (16, .pointer (some ⟨s_.2.2.2.2.2.2, 0, none⟩)), (83, .tuple #[.agg #[s_.2.2.2.1, .int .i64 t495, s_.2.2.2.2.1, .int .i64 t499, .int .i64 t500, s_.2.2.2.2.2.1], .bool t504]), (90, .agg #[s_.2.2.2.1, .int .i64 t495, s_.2.2.2.2.1, .int .i64 t499, .int .i64 t500, s_.2.2.2.2.2.1]), (91, .bool t504)]) (fun s_ w' => (w'.cell? ⟨gb394, 0, none⟩ = some (.slice A0_0 l0_0.length c0_0) ∧ w'.cell? ⟨gb394, 1, none⟩ = some (.int .i64 a0_1) ∧ w'.cell? ⟨gb394, 2, none⟩ = some (.slice A0_2 l0_2.length c0_2) ∧ w'.cell? ⟨gb394, 3, none⟩ = some (.int .i64 a0_3) ∧ w'.cell? ⟨gb394, 4, none⟩ = some (.int .i64 a0_4) ∧ w'.cell? ⟨gb394, 5, none⟩ = some (.slice A0_5 l0_5.length c0_5) ∧ w'.cell? ⟨gb395, 0, none⟩ = some (.int .i64 a1_0) ∧ w'.cell? ⟨gb395, 1, none⟩ = some (.int .i64 a1_1)) ∧ (Kd.R k100 100 w' w.heap.size (fun k_ => some k_ ≠ (s_.2.2.2.1 : Value).ownBlock ∧ some k_ ≠ (.slice Ao32 t411.length co32 : Value).ownBlock ∧ some k_ ≠ (.slice Ao45 t469.length co45 : Value).ownBlock ∧ some k_ ≠ (.slice Ao58 t440.length co58 : Value).ownBlock) s_.1 t478) ∧ (Kd.R (Kd.int .i64) 3 w' w.heap.size (fun k_ => some k_ ≠ (s_.2.2.2.2.1 : Value).ownBlock ∧ some k_ ≠ (.slice Ao35 t415.length co35 : Value).ownBlock ∧ some k_ ≠ (.slice Ao50 t470.length co50 : Value).ownBlock ∧ some k_ ≠ (.slice Ao61 t444.length co61 : Value).ownBlock) s_.2.1 t482) ∧ (Kd.R k61 61 w' w.heap.size (fun k_ => some k_ ≠ (s_.2.2.2.2.2.1 : Value).ownBlock ∧ some k_ ≠ (.slice Ao39 t420.length co39 : Value).ownBlock ∧ some k_ ≠ (.slice Ao51 t471.length co51 : Value).ownBlock ∧ some k_ ≠ (.slice Ao65 t449.length co65 : Value).ownBlock) s_.2.2.1 t487) ∧ (Kd.R k100 100 w' w.heap.size (fun k_ => some k_ ≠ (s_.1 : Value).ownBlock ∧ some k_ ≠ (.slice Ao32 t411.length co32 : Value).ownBlock ∧ some k_ ≠ (.slice Ao45 t469.length co45 : Value).ownBlock ∧ some k_ ≠ (.slice Ao58 t440.length co58 : Value).ownBlock) s_.2.2.2.1 t492) ∧ (Kd.R (Kd.int .i64) 3 w' w.heap.size (fun k_ => some k_ ≠ (s_.2.1 : Value).ownBlock ∧ some k_ ≠ (.slice Ao35 t415.length co35 : Value).ownBlock ∧ some k_ ≠ (.slice Ao50 t470.length co50 : Value).ownBlock ∧ some k_ ≠ (.slice Ao61 t444.length co61 : Value).ownBlock) s_.2.2.2.2.1 t496) ∧ (Kd.R k61 61 w' w.heap.size (fun k_ => some k_ ≠ (s_.2.2.1 : Value).ownBlock ∧ some k_ ≠ (.slice Ao39 t420.length co39 : Value).ownBlock ∧ some k_ ≠ (.slice Ao51 t471.length co51 : Value).ownBlock ∧ some k_ ≠ (.slice Ao65 t449.length co65 : Value).ownBlock) s_.2.2.2.2.2.1 t501) ∧ (Kd.R k100 100 w' w.heap.size (fun k_ => some k_ ≠ (s_.1 : Value).ownBlock ∧ some k_ ≠ (s_.2.2.2.1 : Value).ownBlock ∧ some k_ ≠ (.slice Ao45 t469.length co45 : Value).ownBlock ∧ some k_ ≠ (.slice Ao58 t440.length co58 : Value).ownBlock) (.slice Ao32 t411.length co32) t411) ∧ (Kd.R (Kd.int .i64) 3 w' w.heap.size (fun k_ => some k_ ≠ (s_.2.1 : Value).ownBlock ∧ some k_ ≠ (s_.2.2.2.2.1 : Value).ownBlock ∧ some k_ ≠ (.slice Ao50 t470.length co50 : Value).ownBlock ∧ some k_ ≠ (.slice Ao61 t444.length co61 : Value).ownBlock) (.slice Ao35 t415.length co35) t415) ∧ (Kd.R k61 61 w' w.heap.size (fun k_ => some k_ ≠ (s_.2.2.1 : Value).ownBlock ∧ some k_ ≠ (s_.2.2.2.2.2.1 : Value).ownBlock ∧ some k_ ≠ (.slice Ao51 t471.length co51 : Value).ownBlock ∧ some k_ ≠ (.slice Ao65 t449.length co65 : Value).ownBlock) (.slice Ao39 t420.length co39) t420) ∧ (Kd.R k100 100 w' w.heap.size (fun k_ => some k_ ≠ (s_.1 : Value).ownBlock ∧ some k_ ≠ (s_.2.2.2.1 : Value).ownBlock ∧ some k_ ≠ (.slice Ao32 t411.length co32 : Value).ownBlock ∧ some k_ ≠ (.slice Ao58 t440.length co58 : Value).ownBlock) (.slice Ao45 t469.length co45) t469) ∧ (Kd.R (Kd.int .i64) 3 w' w.heap.size (fun k_ => some k_ ≠ (s_.2.1 : Value).ownBlock ∧ some k_ ≠ (s_.2.2.2.2.1 : Value).ownBlock ∧ some k_ ≠ (.slice Ao35 t415.length co35 : Value).ownBlock ∧ some k_ ≠ (.slice Ao61 t444.length co61 : Value).ownBlock) (.slice Ao50 t470.length co50) t470) ∧ (Kd.R k61 61 w' w.heap.size (fun k_ => some k_ ≠ (s_.2.2.1 : Value).ownBlock ∧ some k_ ≠ (s_.2.2.2.2.2.1 : Value).ownBlock ∧ some k_ ≠ (.slice Ao39 t420.length co39 : Value).ownBlock ∧ some k_ ≠ (.slice Ao65 t449.length co65 : Value).ownBlock) (.slice Ao51 t471.length co51) t471) ∧ (Kd.R k100 100 w' w.heap.size (fun k_ => some k_ ≠ (s_.1 : Value).ownBlock ∧ some k_ ≠ (s_.2.2.2.1 : Value).ownBlock ∧ some k_ ≠ (.slice Ao32 t411.length co32 : Value).ownBlock ∧ some k_ ≠ (.slice Ao45 t469.length co45 : Value).ownBlock) (.slice Ao58 t440.length co58) t474) ∧ (Kd.R (Kd.int .i64) 3 w' w.heap.size (fun k_ => some k_ ≠ (s_.2.1 : Value).ownBlock ∧ some k_ ≠ (s_.2.2.2.2.1 : Value).ownBlock ∧ some k_ ≠ (.slice Ao35 t415.length co35 : Value).ownBlock ∧ some k_ ≠ (.slice Ao50 t470.length co50 : Value).ownBlock) (.slice Ao61 t444.length co61) t475) ∧ (Kd.R k61 61 w' w.heap.size (fun k_ => some k_ ≠ (s_.2.2.1 : Value).ownBlock ∧ some k_ ≠ (s_.2.2.2.2.2.1 : Value).ownBlock ∧ some k_ ≠ (.slice Ao39 t420.length co39 : Value).ownBlock ∧ some k_ ≠ (.slice Ao51 t471.length co51 : Value).ownBlock) (.slice Ao65 t449.length co65) t476) ∧ (w'.heap[gb394]? = some (.cells #[.slice A0_0 l0_0.length c0_0, .int .i64 a0_1, .slice A0_2 l0_2.length c0_2, .int .i64 a0_3, .int .i64 a0_4, .slice A0_5 l0_5.length c0_5] 28 (0, 0))) ∧ (w'.heap[gb395]? = some (.cells #[.int .i64 a1_0, .int .i64 a1_1] 30 (0, 0))) ∧ (w'.heap[gb424]? = some (.cells #[.slice Ao32 t411.length co32, .int .i64 t414, .slice Ao35 t415.length co35, .int .i64 t418, .int .i64 t419, .slice Ao39 t420.length co39] 37 (0, 0))) ∧ (w'.heap[gb437]? = some (.cells #[.slice Ao45 t469.length co45, .int .i64 t428, .slice Ao50 t470.length co50, .int .i64 t432, .int .i64 t433, .slice Ao51 t471.length co51] 37 (0, 0))) ∧ (w'.heap[gb453]? = some (.cells #[.slice Ao58 t440.length co58, .int .i64 t443, .slice Ao61 t444.length co61, .int .i64 t447, .int .i64 t448, .slice Ao65 t449.length co65] 37 (0, 0))) ∧ (w'.heap[s_.2.2.2.2.2.2]? = some (.cells #[.slice none 0 0, .int .i64 0, .slice none 0 0, .int .i64 0, .int .i64 0, .slice none 0 0] 37 (0, 0))) ∧ (w.heap.size ≤ s_.2.2.2.2.2.2) ∧ (w.heap.size ≤ s_.2.2.2.2.2.2) ∧ (gb394 ≠ s_.2.2.2.2.2.2) ∧ (s_.2.2.2.2.2.2 ≠ gb394) ∧ (gb395 ≠ s_.2.2.2.2.2.2) ∧ (s_.2.2.2.2.2.2 ≠ gb395) ∧ (gb424 ≠ s_.2.2.2.2.2.2) ∧ (s_.2.2.2.2.2.2 ≠ gb424) ∧ (gb437 ≠ s_.2.2.2.2.2.2) ∧ (s_.2.2.2.2.2.2 ≠ gb437) ∧ (gb453 ≠ s_.2.2.2.2.2.2) ∧ (s_.2.2.2.2.2.2 ≠ gb453) ∧ (Below w.heap.size w w')) ?_ ?_
           rotate_left
           ·intro hCont
            refine two_ (i := 1) (j := 9) (Ni := some 85) (Nj := some 16) #[true, true, true, false, true, false, false, false, false, false, false, false] #[true, false, true, false, true, false, false, false, false, true, false, false] rfl rfl rfl rfl (two_of HT_.out (by kernel_rfl)) (by decide) (by decide) (fun K hK => ?_) (fun K hK => ?_)
            ·skip
             refine goes_ Try.func7 (by kernel_rfl) rfl #[.agg #[.slice A0_0 l0_0.length c0_0, .int .i64 a0_1, .slice A0_2 l0_2.length c0_2, .int .i64 a0_3, .int .i64 a0_4, .slice A0_5 l0_5.length c0_5]] (by rfl) rfl rfl MP ?_
             with_reducible refine (laws_toShop.calls kj93 _ _ l0_0 a0_1 _ _ l0_2 a0_3 a0_4 _ _ l0_5 t478 t481 t482 t485 t486 t487 _ ?side1 ?side2 ?side3 ?side4 ?side5 ?side6 A143.out).mono ?_
             (case side1 => exact cZr (Kd.C_below HR0_0.out HB.out))
             (case side2 => exact HC0_0.out)
             (case side3 => exact cZr (Kd.C_below HR0_2.out HB.out))
             (case side4 => exact HC0_2.out)
             (case side5 => exact cZr (Kd.C_below HR0_5.out HB.out))
             (case side6 => exact HC0_5.out)
             rintro e w156 ⟨v479, v483, v488, rfl, ho0, ho1, ho2, hb⟩
             refine ⟨_, rfl, ?_⟩
             have HO480 := Aside0.mk (Kd.R_lower (Kd.R_new' (Kd.R_new' (Kd.R_new' ho0 (Kd.R_lt (rZr HO_425000))) (Kd.R_lt (rZr HO_438000))) (Kd.R_lt (rZr HO_454000))) (below_size BB))
             replace HO_425000 := reB HO_425000 ho0 hb
             replace HO_438000 := reB HO_438000 ho0 hb
             replace HO_454000 := reB HO_454000 ho0 hb
             have HO484 := Aside0.mk (Kd.R_lower (Kd.R_new' (Kd.R_new' (Kd.R_new' ho1 (Kd.R_lt (rZr HO_425002))) (Kd.R_lt (rZr HO_438002))) (Kd.R_lt (rZr HO_454002))) (below_size BB))
             replace HO_425002 := reB HO_425002 ho1 hb
             replace HO_438002 := reB HO_438002 ho1 hb
             replace HO_454002 := reB HO_454002 ho1 hb
             have HO489 := Aside0.mk (Kd.R_lower (Kd.R_new' (Kd.R_new' (Kd.R_new' ho2 (Kd.R_lt (rZr HO_425005))) (Kd.R_lt (rZr HO_438005))) (Kd.R_lt (rZr HO_454005))) (below_size BB))
             replace HO_425005 := reB HO_425005 ho2 hb
             replace HO_438005 := reB HO_438005 ho2 hb
             replace HO_454005 := reB HO_454005 ho2 hb
             replace BK394 := kbB BK394 hb
             replace BK395 := kbB BK395 hb
             replace BK424 := kbB BK424 hb
             replace BK437 := kbB BK437 hb
             replace BK453 := kbB BK453 hb
             replace HB := bbB hb
             (try clear hb)
             (try clear ho0)
             (try clear ho1)
             (try clear ho2)
             refine hK.out _ _ ⟨kZc BK394 0, kZc BK394 1, kZc BK394 2, kZc BK394 3, kZc BK394 4, kZc BK394 5, kZc BK395 0, kZc BK395 1⟩ (fun hHeld => ?_)
             clear hK K
             refine nZm (h := ?_)
             refine two_ (i := 3) (j := 9) (Ni := some 87) (Nj := some 16) #[true, true, true, true, true, false, false, false, false, false, false, false] #[true, true, true, false, true, false, false, false, false, true, false, false] rfl rfl rfl rfl (two_of HT_.out (by kernel_rfl)) (by decide) (by decide) (fun K hK => ?_) (fun K hK => ?_)
             ·skip
              refine goes_ Try.func8 (by kernel_rfl) rfl #[.agg #[.int .i64 a1_0, .int .i64 a1_1]] (by rfl) rfl rfl MP ?_
              with_reducible refine (laws_toPipe.calls a1_0 a1_1 t490 t491 _ A144.out).mono ?_
              rintro e w157 ⟨rfl, hb⟩
              refine ⟨_, rfl, ?_⟩
              replace HO_425000 := rbB HO_425000 hb
              replace HO_425002 := rbB HO_425002 hb
              replace HO_425005 := rbB HO_425005 hb
              replace HO_438000 := rbB HO_438000 hb
              replace HO_438002 := rbB HO_438002 hb
              replace HO_438005 := rbB HO_438005 hb
              replace HO_454000 := rbB HO_454000 hb
              replace HO_454002 := rbB HO_454002 hb
              replace HO_454005 := rbB HO_454005 hb
              replace HO480 := rbB HO480 hb
              replace HO484 := rbB HO484 hb
              replace HO489 := rbB HO489 hb
              replace BK394 := kbB BK394 hb
              replace BK395 := kbB BK395 hb
              replace BK424 := kbB BK424 hb
              replace BK437 := kbB BK437 hb
              replace BK453 := kbB BK453 hb
              replace HB := bbB hb
              (try clear hb)
              obtain ⟨Ao158, co158, eo158⟩ := Kd.R_slice HO480.out
              (first | subst eo158 | (obtain ⟨f4_, f5_⟩ := slI eo158; subst f4_; subst f5_))
              obtain ⟨Ao159, co159, eo159⟩ := Kd.R_slice HO484.out
              (first | subst eo159 | (obtain ⟨f4_, f5_⟩ := slI eo159; subst f4_; subst f5_))
              obtain ⟨Ao160, co160, eo160⟩ := Kd.R_slice HO489.out
              (first | subst eo160 | (obtain ⟨f4_, f5_⟩ := slI eo160; subst f4_; subst f5_))
              refine hK.out _ _ ⟨kZc BK394 0, kZc BK394 1, kZc BK394 2, kZc BK394 3, kZc BK394 4, kZc BK394 5, kZc BK395 0, kZc BK395 1⟩ (fun hHeld => ?_)
              clear hK K
              refine nZm (h := ?_)
              refine two_ (i := 5) (j := 9) (Ni := some 89) (Nj := some 16) #[true, true, true, true, true, true, false, false, false, false, false, false] #[true, true, true, true, true, false, false, false, false, true, false, false] rfl rfl rfl rfl (two_of HT_.out (by kernel_rfl)) (by decide) (by decide) (fun K hK => ?_) (fun K hK => ?_)
              ·skip
               refine goes_ Try.func9 (by kernel_rfl) rfl #[.agg #[.slice Ao158 t478.length co158, .int .i64 t481, .slice Ao159 t482.length co159, .int .i64 t485, .int .i64 t486, .slice Ao160 t487.length co160], .agg #[.int .i64 t490, .int .i64 t491], .int .i64 a2] (by rfl) rfl rfl MP ?_
               with_reducible refine (impl_ShopFault.calls _ _ t478 t481 _ _ t482 t485 t486 _ _ t487 t490 t491 a2 t492 t495 t496 t499 t500 t501 t504 _ ?side1 ?side2 ?side3 ?side4 ?side5 ?side6 A145.out).mono ?_
               (case side1 => exact rdC HO480)
               (case side2 => exact (rd1 HO480))
               (case side3 => exact rdC HO484)
               (case side4 => exact (rd1 HO484))
               (case side5 => exact rdC HO489)
               (case side6 => exact (rd1 HO489))
               rintro e w161 ⟨v493, v497, v502, rfl, ho0, ho1, ho2, hb⟩
               refine ⟨_, rfl, ?_⟩
               have HO494 := Aside0.mk (Kd.R_lower (Kd.R_new' (Kd.R_new' (Kd.R_new' (Kd.R_new' ho0 (Kd.R_lt (rZr HO_425000))) (Kd.R_lt (rZr HO_438000))) (Kd.R_lt (rZr HO_454000))) (Kd.R_lt (rZr HO480))) (below_size BB))
               replace HO_425000 := reB HO_425000 ho0 hb
               replace HO_438000 := reB HO_438000 ho0 hb
               replace HO_454000 := reB HO_454000 ho0 hb
               replace HO480 := reB HO480 ho0 hb
               have HO498 := Aside0.mk (Kd.R_lower (Kd.R_new' (Kd.R_new' (Kd.R_new' (Kd.R_new' ho1 (Kd.R_lt (rZr HO_425002))) (Kd.R_lt (rZr HO_438002))) (Kd.R_lt (rZr HO_454002))) (Kd.R_lt (rZr HO484))) (below_size BB))
               replace HO_425002 := reB HO_425002 ho1 hb
               replace HO_438002 := reB HO_438002 ho1 hb
               replace HO_454002 := reB HO_454002 ho1 hb
               replace HO484 := reB HO484 ho1 hb
               have HO503 := Aside0.mk (Kd.R_lower (Kd.R_new' (Kd.R_new' (Kd.R_new' (Kd.R_new' ho2 (Kd.R_lt (rZr HO_425005))) (Kd.R_lt (rZr HO_438005))) (Kd.R_lt (rZr HO_454005))) (Kd.R_lt (rZr HO489))) (below_size BB))
               replace HO_425005 := reB HO_425005 ho2 hb
               replace HO_438005 := reB HO_438005 ho2 hb
               replace HO_454005 := reB HO_454005 ho2 hb
               replace HO489 := reB HO489 ho2 hb
               replace BK394 := kbB BK394 hb
               replace BK395 := kbB BK395 hb
               replace BK424 := kbB BK424 hb
               replace BK437 := kbB BK437 hb
               replace BK453 := kbB BK453 hb
               replace HB := bbB hb
               (try clear hb)
               (try clear ho0)
               (try clear ho1)
               (try clear ho2)
               refine hK.out _ _ ⟨kZc BK394 0, kZc BK394 1, kZc BK394 2, kZc BK394 3, kZc BK394 4, kZc BK394 5, kZc BK395 0, kZc BK395 1⟩ (fun hHeld => ?_)
               clear hK K
               refine nZm (h := ?_)
               refine pZu 6 83 HT_ (h := ?_)
               refine pZu 7 90 HT_ (h := ?_)
               refine pZu 8 91 HT_ (h := ?_)
               refine oZn 9 (some 16) HT_ (h := fun K hK => ?_)
               refine box_step ?hg (N := 16) ?hd (cs := #[.slice none 0 0, .int .i64 0, .slice none 0 0, .int .i64 0, .int .i64 0, .slice none 0 0]) (t := 37) ?hr ?_; (case hd => rfl); (case hg => rfl); (case hr => exact GR)
               intro gb505 hg w162 hbox hb
               replace HO_425000 := rbB HO_425000 hb
               replace HO_425002 := rbB HO_425002 hb
               replace HO_425005 := rbB HO_425005 hb
               replace HO_438000 := rbB HO_438000 hb
               replace HO_438002 := rbB HO_438002 hb
               replace HO_438005 := rbB HO_438005 hb
               replace HO_454000 := rbB HO_454000 hb
               replace HO_454002 := rbB HO_454002 hb
               replace HO_454005 := rbB HO_454005 hb
               replace HO480 := rbB HO480 hb
               replace HO484 := rbB HO484 hb
               replace HO489 := rbB HO489 hb
               replace HO494 := rbB HO494 hb
               replace HO498 := rbB HO498 hb
               replace HO503 := rbB HO503 hb
               have BK505 := Aside0.mk (hbox)
               have GW505 := szB hg
               have GE505 := szB hg
               replace HB := bbB hb
               have NB394_505 := nlB BK394 hg
               have NB505_394 := ngB BK394 hg
               replace BK394 := kbB BK394 hb
               have NB395_505 := nlB BK395 hg
               have NB505_395 := ngB BK395 hg
               replace BK395 := kbB BK395 hb
               have NB424_505 := nlB BK424 hg
               have NB505_424 := ngB BK424 hg
               replace BK424 := kbB BK424 hb
               have NB437_505 := nlB BK437 hg
               have NB505_437 := ngB BK437 hg
               replace BK437 := kbB BK437 hb
               have NB453_505 := nlB BK453 hg
               have NB505_453 := ngB BK453 hg
               replace BK453 := kbB BK453 hb
               clear hb hbox hg
               refine hK.out _ _ ⟨kZc BK394 0, kZc BK394 1, kZc BK394 2, kZc BK394 3, kZc BK394 4, kZc BK394 5, kZc BK395 0, kZc BK395 1⟩ (fun hHeld => ?_)
               clear hK K
               refine nZm (h := ?_)
               exact nR (hCont (.slice Ao158 t478.length co158, .slice Ao159 t482.length co159, .slice Ao160 t487.length co160, v493, v497, v502, gb505) _ ⟨hHeld, (rM HO480 (fun _ hk => ⟨hk.2, ⟨hk.1.1.1.2, ⟨hk.1.1.2, hk.1.2⟩⟩⟩)), (rM HO484 (fun _ hk => ⟨hk.2, ⟨hk.1.1.1.2, ⟨hk.1.1.2, hk.1.2⟩⟩⟩)), (rM HO489 (fun _ hk => ⟨hk.2, ⟨hk.1.1.1.2, ⟨hk.1.1.2, hk.1.2⟩⟩⟩)), (rM HO494 (fun _ hk => ⟨hk.2, ⟨hk.1.1.1.2, ⟨hk.1.1.2, hk.1.2⟩⟩⟩)), (rM HO498 (fun _ hk => ⟨hk.2, ⟨hk.1.1.1.2, ⟨hk.1.1.2, hk.1.2⟩⟩⟩)), (rM HO503 (fun _ hk => ⟨hk.2, ⟨hk.1.1.1.2, ⟨hk.1.1.2, hk.1.2⟩⟩⟩)), (rM HO_425000 (fun _ hk => ⟨hk.1.2, ⟨hk.2, ⟨hk.1.1.1, hk.1.1.2⟩⟩⟩)), (rM HO_425002 (fun _ hk => ⟨hk.1.2, ⟨hk.2, ⟨hk.1.1.1, hk.1.1.2⟩⟩⟩)), (rM HO_425005 (fun _ hk => ⟨hk.1.2, ⟨hk.2, ⟨hk.1.1.1, hk.1.1.2⟩⟩⟩)), (rM HO_438000 (fun _ hk => ⟨hk.1.2, ⟨hk.2, ⟨hk.1.1.1, hk.1.1.2⟩⟩⟩)), (rM HO_438002 (fun _ hk => ⟨hk.1.2, ⟨hk.2, ⟨hk.1.1.1, hk.1.1.2⟩⟩⟩)), (rM HO_438005 (fun _ hk => ⟨hk.1.2, ⟨hk.2, ⟨hk.1.1.1, hk.1.1.2⟩⟩⟩)), (rM HO_454000 (fun _ hk => ⟨hk.1.2, ⟨hk.2, ⟨hk.1.1.1, hk.1.1.2⟩⟩⟩)), (rM HO_454002 (fun _ hk => ⟨hk.1.2, ⟨hk.2, ⟨hk.1.1.1, hk.1.1.2⟩⟩⟩)), (rM HO_454005 (fun _ hk => ⟨hk.1.2, ⟨hk.2, ⟨hk.1.1.1, hk.1.1.2⟩⟩⟩)), (kZb BK394), (kZb BK395), (kZb BK424), (kZb BK437), (kZb BK453), (kZb BK505), GW505.out, GE505.out, NB394_505.out, NB505_394.out, NB395_505.out, NB505_395.out, NB424_505.out, NB505_424.out, NB437_505.out, NB505_437.out, NB453_505.out, NB505_453.out, BB⟩)
              ·skip
               refine box_step ?hg (N := 16) ?hd (cs := #[.slice none 0 0, .int .i64 0, .slice none 0 0, .int .i64 0, .int .i64 0, .slice none 0 0]) (t := 37) ?hr ?_; (case hd => rfl); (case hg => rfl); (case hr => exact GR)
               intro gb505 hg w158 hbox hb
               replace HO_425000 := rbB HO_425000 hb
               replace HO_425002 := rbB HO_425002 hb
               replace HO_425005 := rbB HO_425005 hb
               replace HO_438000 := rbB HO_438000 hb
               replace HO_438002 := rbB HO_438002 hb
               replace HO_438005 := rbB HO_438005 hb
               replace HO_454000 := rbB HO_454000 hb
               replace HO_454002 := rbB HO_454002 hb
               replace HO_454005 := rbB HO_454005 hb
               replace HO480 := rbB HO480 hb
               replace HO484 := rbB HO484 hb
               replace HO489 := rbB HO489 hb
               have BK505 := Aside0.mk (hbox)
               have GW505 := szB hg
               have GE505 := szB hg
               replace HB := bbB hb
               have NB394_505 := nlB BK394 hg
               have NB505_394 := ngB BK394 hg
               replace BK394 := kbB BK394 hb
               have NB395_505 := nlB BK395 hg
               have NB505_395 := ngB BK395 hg
               replace BK395 := kbB BK395 hb
               have NB424_505 := nlB BK424 hg
               have NB505_424 := ngB BK424 hg
               replace BK424 := kbB BK424 hb
               have NB437_505 := nlB BK437 hg
               have NB505_437 := ngB BK437 hg
               replace BK437 := kbB BK437 hb
               have NB453_505 := nlB BK453 hg
               have NB505_453 := ngB BK453 hg
               replace BK453 := kbB BK453 hb
               clear hb hbox hg
               obtain ⟨Ao159, co159, eo159⟩ := Kd.R_slice HO480.out
               (first | subst eo159 | (obtain ⟨f4_, f5_⟩ := slI eo159; subst f4_; subst f5_))
               obtain ⟨Ao160, co160, eo160⟩ := Kd.R_slice HO484.out
               (first | subst eo160 | (obtain ⟨f4_, f5_⟩ := slI eo160; subst f4_; subst f5_))
               obtain ⟨Ao161, co161, eo161⟩ := Kd.R_slice HO489.out
               (first | subst eo161 | (obtain ⟨f4_, f5_⟩ := slI eo161; subst f4_; subst f5_))
               refine hK.out _ _ ⟨kZc BK394 0, kZc BK394 1, kZc BK394 2, kZc BK394 3, kZc BK394 4, kZc BK394 5, kZc BK395 0, kZc BK395 1⟩ (fun hHeld => ?_)
               clear hK K
               refine nZm (h := ?_)
               refine oZn 5 (some 89) HT_ (h := fun K hK => ?_)
               refine goes_ Try.func9 (by kernel_rfl) rfl #[.agg #[.slice Ao159 t478.length co159, .int .i64 t481, .slice Ao160 t482.length co160, .int .i64 t485, .int .i64 t486, .slice Ao161 t487.length co161], .agg #[.int .i64 t490, .int .i64 t491], .int .i64 a2] (by rfl) rfl rfl MP ?_
               with_reducible refine (impl_ShopFault.calls _ _ t478 t481 _ _ t482 t485 t486 _ _ t487 t490 t491 a2 t492 t495 t496 t499 t500 t501 t504 _ ?side1 ?side2 ?side3 ?side4 ?side5 ?side6 A145.out).mono ?_
               (case side1 => exact rdC HO480)
               (case side2 => exact (rd1 HO480))
               (case side3 => exact rdC HO484)
               (case side4 => exact (rd1 HO484))
               (case side5 => exact rdC HO489)
               (case side6 => exact (rd1 HO489))
               rintro e w162 ⟨v493, v497, v502, rfl, ho0, ho1, ho2, hb⟩
               refine ⟨_, rfl, ?_⟩
               have HO494 := Aside0.mk (Kd.R_lower (Kd.R_new' (Kd.R_new' (Kd.R_new' (Kd.R_new' ho0 (Kd.R_lt (rZr HO_425000))) (Kd.R_lt (rZr HO_438000))) (Kd.R_lt (rZr HO_454000))) (Kd.R_lt (rZr HO480))) (below_size BB))
               replace HO_425000 := reB HO_425000 ho0 hb
               replace HO_438000 := reB HO_438000 ho0 hb
               replace HO_454000 := reB HO_454000 ho0 hb
               replace HO480 := reB HO480 ho0 hb
               have HO498 := Aside0.mk (Kd.R_lower (Kd.R_new' (Kd.R_new' (Kd.R_new' (Kd.R_new' ho1 (Kd.R_lt (rZr HO_425002))) (Kd.R_lt (rZr HO_438002))) (Kd.R_lt (rZr HO_454002))) (Kd.R_lt (rZr HO484))) (below_size BB))
               replace HO_425002 := reB HO_425002 ho1 hb
               replace HO_438002 := reB HO_438002 ho1 hb
               replace HO_454002 := reB HO_454002 ho1 hb
               replace HO484 := reB HO484 ho1 hb
               have HO503 := Aside0.mk (Kd.R_lower (Kd.R_new' (Kd.R_new' (Kd.R_new' (Kd.R_new' ho2 (Kd.R_lt (rZr HO_425005))) (Kd.R_lt (rZr HO_438005))) (Kd.R_lt (rZr HO_454005))) (Kd.R_lt (rZr HO489))) (below_size BB))
               replace HO_425005 := reB HO_425005 ho2 hb
               replace HO_438005 := reB HO_438005 ho2 hb
               replace HO_454005 := reB HO_454005 ho2 hb
               replace HO489 := reB HO489 ho2 hb
               replace BK394 := kbB BK394 hb
               replace BK395 := kbB BK395 hb
               replace BK424 := kbB BK424 hb
               replace BK437 := kbB BK437 hb
               replace BK453 := kbB BK453 hb
               replace BK505 := kbB BK505 hb
               replace HB := bbB hb
               (try clear hb)
               (try clear ho0)
               (try clear ho1)
               (try clear ho2)
               refine hK.out _ _ ⟨kZc BK394 0, kZc BK394 1, kZc BK394 2, kZc BK394 3, kZc BK394 4, kZc BK394 5, kZc BK395 0, kZc BK395 1⟩ (fun hHeld => ?_)
               clear hK K
               refine nZm (h := ?_)
               refine pZu 6 83 HT_ (h := ?_)
               refine pZu 7 90 HT_ (h := ?_)
               refine pZu 8 91 HT_ (h := ?_)
               exact nR (hCont (.slice Ao159 t478.length co159, .slice Ao160 t482.length co160, .slice Ao161 t487.length co161, v493, v497, v502, gb505) _ ⟨hHeld, (rM HO480 (fun _ hk => ⟨hk.2, ⟨hk.1.1.1.2, ⟨hk.1.1.2, hk.1.2⟩⟩⟩)), (rM HO484 (fun _ hk => ⟨hk.2, ⟨hk.1.1.1.2, ⟨hk.1.1.2, hk.1.2⟩⟩⟩)), (rM HO489 (fun _ hk => ⟨hk.2, ⟨hk.1.1.1.2, ⟨hk.1.1.2, hk.1.2⟩⟩⟩)), (rM HO494 (fun _ hk => ⟨hk.2, ⟨hk.1.1.1.2, ⟨hk.1.1.2, hk.1.2⟩⟩⟩)), (rM HO498 (fun _ hk => ⟨hk.2, ⟨hk.1.1.1.2, ⟨hk.1.1.2, hk.1.2⟩⟩⟩)), (rM HO503 (fun _ hk => ⟨hk.2, ⟨hk.1.1.1.2, ⟨hk.1.1.2, hk.1.2⟩⟩⟩)), (rM HO_425000 (fun _ hk => ⟨hk.1.2, ⟨hk.2, ⟨hk.1.1.1, hk.1.1.2⟩⟩⟩)), (rM HO_425002 (fun _ hk => ⟨hk.1.2, ⟨hk.2, ⟨hk.1.1.1, hk.1.1.2⟩⟩⟩)), (rM HO_425005 (fun _ hk => ⟨hk.1.2, ⟨hk.2, ⟨hk.1.1.1, hk.1.1.2⟩⟩⟩)), (rM HO_438000 (fun _ hk => ⟨hk.1.2, ⟨hk.2, ⟨hk.1.1.1, hk.1.1.2⟩⟩⟩)), (rM HO_438002 (fun _ hk => ⟨hk.1.2, ⟨hk.2, ⟨hk.1.1.1, hk.1.1.2⟩⟩⟩)), (rM HO_438005 (fun _ hk => ⟨hk.1.2, ⟨hk.2, ⟨hk.1.1.1, hk.1.1.2⟩⟩⟩)), (rM HO_454000 (fun _ hk => ⟨hk.1.2, ⟨hk.2, ⟨hk.1.1.1, hk.1.1.2⟩⟩⟩)), (rM HO_454002 (fun _ hk => ⟨hk.1.2, ⟨hk.2, ⟨hk.1.1.1, hk.1.1.2⟩⟩⟩)), (rM HO_454005 (fun _ hk => ⟨hk.1.2, ⟨hk.2, ⟨hk.1.1.1, hk.1.1.2⟩⟩⟩)), (kZb BK394), (kZb BK395), (kZb BK424), (kZb BK437), (kZb BK453), (kZb BK505), GW505.out, GE505.out, NB394_505.out, NB505_394.out, NB395_505.out, NB505_395.out, NB424_505.out, NB505_424.out, NB437_505.out, NB505_437.out, NB453_505.out, NB505_453.out, BB⟩)
             ·skip
              refine box_step ?hg (N := 16) ?hd (cs := #[.slice none 0 0, .int .i64 0, .slice none 0 0, .int .i64 0, .int .i64 0, .slice none 0 0]) (t := 37) ?hr ?_; (case hd => rfl); (case hg => rfl); (case hr => exact GR)
              intro gb505 hg w157 hbox hb
              replace HO_425000 := rbB HO_425000 hb
              replace HO_425002 := rbB HO_425002 hb
              replace HO_425005 := rbB HO_425005 hb
              replace HO_438000 := rbB HO_438000 hb
              replace HO_438002 := rbB HO_438002 hb
              replace HO_438005 := rbB HO_438005 hb
              replace HO_454000 := rbB HO_454000 hb
              replace HO_454002 := rbB HO_454002 hb
              replace HO_454005 := rbB HO_454005 hb
              replace HO480 := rbB HO480 hb
              replace HO484 := rbB HO484 hb
              replace HO489 := rbB HO489 hb
              have BK505 := Aside0.mk (hbox)
              have GW505 := szB hg
              have GE505 := szB hg
              replace HB := bbB hb
              have NB394_505 := nlB BK394 hg
              have NB505_394 := ngB BK394 hg
              replace BK394 := kbB BK394 hb
              have NB395_505 := nlB BK395 hg
              have NB505_395 := ngB BK395 hg
              replace BK395 := kbB BK395 hb
              have NB424_505 := nlB BK424 hg
              have NB505_424 := ngB BK424 hg
              replace BK424 := kbB BK424 hb
              have NB437_505 := nlB BK437 hg
              have NB505_437 := ngB BK437 hg
              replace BK437 := kbB BK437 hb
              have NB453_505 := nlB BK453 hg
              have NB505_453 := ngB BK453 hg
              replace BK453 := kbB BK453 hb
              clear hb hbox hg
              refine hK.out _ _ ⟨kZc BK394 0, kZc BK394 1, kZc BK394 2, kZc BK394 3, kZc BK394 4, kZc BK394 5, kZc BK395 0, kZc BK395 1⟩ (fun hHeld => ?_)
              clear hK K
              refine nZm (h := ?_)
              refine oZn 3 (some 87) HT_ (h := fun K hK => ?_)
              refine goes_ Try.func8 (by kernel_rfl) rfl #[.agg #[.int .i64 a1_0, .int .i64 a1_1]] (by rfl) rfl rfl MP ?_
              with_reducible refine (laws_toPipe.calls a1_0 a1_1 t490 t491 _ A144.out).mono ?_
              rintro e w158 ⟨rfl, hb⟩
              refine ⟨_, rfl, ?_⟩
              replace HO_425000 := rbB HO_425000 hb
              replace HO_425002 := rbB HO_425002 hb
              replace HO_425005 := rbB HO_425005 hb
              replace HO_438000 := rbB HO_438000 hb
              replace HO_438002 := rbB HO_438002 hb
              replace HO_438005 := rbB HO_438005 hb
              replace HO_454000 := rbB HO_454000 hb
              replace HO_454002 := rbB HO_454002 hb
              replace HO_454005 := rbB HO_454005 hb
              replace HO480 := rbB HO480 hb
              replace HO484 := rbB HO484 hb
              replace HO489 := rbB HO489 hb
              replace BK394 := kbB BK394 hb
              replace BK395 := kbB BK395 hb
              replace BK424 := kbB BK424 hb
              replace BK437 := kbB BK437 hb
              replace BK453 := kbB BK453 hb
              replace BK505 := kbB BK505 hb
              replace HB := bbB hb
              (try clear hb)
              obtain ⟨Ao159, co159, eo159⟩ := Kd.R_slice HO480.out
              (first | subst eo159 | (obtain ⟨f4_, f5_⟩ := slI eo159; subst f4_; subst f5_))
              obtain ⟨Ao160, co160, eo160⟩ := Kd.R_slice HO484.out
              (first | subst eo160 | (obtain ⟨f4_, f5_⟩ := slI eo160; subst f4_; subst f5_))
              obtain ⟨Ao161, co161, eo161⟩ := Kd.R_slice HO489.out
              (first | subst eo161 | (obtain ⟨f4_, f5_⟩ := slI eo161; subst f4_; subst f5_))
              refine hK.out _ _ ⟨kZc BK394 0, kZc BK394 1, kZc BK394 2, kZc BK394 3, kZc BK394 4, kZc BK394 5, kZc BK395 0, kZc BK395 1⟩ (fun hHeld => ?_)
              clear hK K
              refine nZm (h := ?_)
              refine oZn 5 (some 89) HT_ (h := fun K hK => ?_)
              refine goes_ Try.func9 (by kernel_rfl) rfl #[.agg #[.slice Ao159 t478.length co159, .int .i64 t481, .slice Ao160 t482.length co160, .int .i64 t485, .int .i64 t486, .slice Ao161 t487.length co161], .agg #[.int .i64 t490, .int .i64 t491], .int .i64 a2] (by rfl) rfl rfl MP ?_
              with_reducible refine (impl_ShopFault.calls _ _ t478 t481 _ _ t482 t485 t486 _ _ t487 t490 t491 a2 t492 t495 t496 t499 t500 t501 t504 _ ?side1 ?side2 ?side3 ?side4 ?side5 ?side6 A145.out).mono ?_
              (case side1 => exact rdC HO480)
              (case side2 => exact (rd1 HO480))
              (case side3 => exact rdC HO484)
              (case side4 => exact (rd1 HO484))
              (case side5 => exact rdC HO489)
              (case side6 => exact (rd1 HO489))
              rintro e w162 ⟨v493, v497, v502, rfl, ho0, ho1, ho2, hb⟩
              refine ⟨_, rfl, ?_⟩
              have HO494 := Aside0.mk (Kd.R_lower (Kd.R_new' (Kd.R_new' (Kd.R_new' (Kd.R_new' ho0 (Kd.R_lt (rZr HO_425000))) (Kd.R_lt (rZr HO_438000))) (Kd.R_lt (rZr HO_454000))) (Kd.R_lt (rZr HO480))) (below_size BB))
              replace HO_425000 := reB HO_425000 ho0 hb
              replace HO_438000 := reB HO_438000 ho0 hb
              replace HO_454000 := reB HO_454000 ho0 hb
              replace HO480 := reB HO480 ho0 hb
              have HO498 := Aside0.mk (Kd.R_lower (Kd.R_new' (Kd.R_new' (Kd.R_new' (Kd.R_new' ho1 (Kd.R_lt (rZr HO_425002))) (Kd.R_lt (rZr HO_438002))) (Kd.R_lt (rZr HO_454002))) (Kd.R_lt (rZr HO484))) (below_size BB))
              replace HO_425002 := reB HO_425002 ho1 hb
              replace HO_438002 := reB HO_438002 ho1 hb
              replace HO_454002 := reB HO_454002 ho1 hb
              replace HO484 := reB HO484 ho1 hb
              have HO503 := Aside0.mk (Kd.R_lower (Kd.R_new' (Kd.R_new' (Kd.R_new' (Kd.R_new' ho2 (Kd.R_lt (rZr HO_425005))) (Kd.R_lt (rZr HO_438005))) (Kd.R_lt (rZr HO_454005))) (Kd.R_lt (rZr HO489))) (below_size BB))
              replace HO_425005 := reB HO_425005 ho2 hb
              replace HO_438005 := reB HO_438005 ho2 hb
              replace HO_454005 := reB HO_454005 ho2 hb
              replace HO489 := reB HO489 ho2 hb
              replace BK394 := kbB BK394 hb
              replace BK395 := kbB BK395 hb
              replace BK424 := kbB BK424 hb
              replace BK437 := kbB BK437 hb
              replace BK453 := kbB BK453 hb
              replace BK505 := kbB BK505 hb
              replace HB := bbB hb
              (try clear hb)
              (try clear ho0)
              (try clear ho1)
              (try clear ho2)
              refine hK.out _ _ ⟨kZc BK394 0, kZc BK394 1, kZc BK394 2, kZc BK394 3, kZc BK394 4, kZc BK394 5, kZc BK395 0, kZc BK395 1⟩ (fun hHeld => ?_)
              clear hK K
              refine nZm (h := ?_)
              refine pZu 6 83 HT_ (h := ?_)
              refine pZu 7 90 HT_ (h := ?_)
              refine pZu 8 91 HT_ (h := ?_)
              exact nR (hCont (.slice Ao159 t478.length co159, .slice Ao160 t482.length co160, .slice Ao161 t487.length co161, v493, v497, v502, gb505) _ ⟨hHeld, (rM HO480 (fun _ hk => ⟨hk.2, ⟨hk.1.1.1.2, ⟨hk.1.1.2, hk.1.2⟩⟩⟩)), (rM HO484 (fun _ hk => ⟨hk.2, ⟨hk.1.1.1.2, ⟨hk.1.1.2, hk.1.2⟩⟩⟩)), (rM HO489 (fun _ hk => ⟨hk.2, ⟨hk.1.1.1.2, ⟨hk.1.1.2, hk.1.2⟩⟩⟩)), (rM HO494 (fun _ hk => ⟨hk.2, ⟨hk.1.1.1.2, ⟨hk.1.1.2, hk.1.2⟩⟩⟩)), (rM HO498 (fun _ hk => ⟨hk.2, ⟨hk.1.1.1.2, ⟨hk.1.1.2, hk.1.2⟩⟩⟩)), (rM HO503 (fun _ hk => ⟨hk.2, ⟨hk.1.1.1.2, ⟨hk.1.1.2, hk.1.2⟩⟩⟩)), (rM HO_425000 (fun _ hk => ⟨hk.1.2, ⟨hk.2, ⟨hk.1.1.1, hk.1.1.2⟩⟩⟩)), (rM HO_425002 (fun _ hk => ⟨hk.1.2, ⟨hk.2, ⟨hk.1.1.1, hk.1.1.2⟩⟩⟩)), (rM HO_425005 (fun _ hk => ⟨hk.1.2, ⟨hk.2, ⟨hk.1.1.1, hk.1.1.2⟩⟩⟩)), (rM HO_438000 (fun _ hk => ⟨hk.1.2, ⟨hk.2, ⟨hk.1.1.1, hk.1.1.2⟩⟩⟩)), (rM HO_438002 (fun _ hk => ⟨hk.1.2, ⟨hk.2, ⟨hk.1.1.1, hk.1.1.2⟩⟩⟩)), (rM HO_438005 (fun _ hk => ⟨hk.1.2, ⟨hk.2, ⟨hk.1.1.1, hk.1.1.2⟩⟩⟩)), (rM HO_454000 (fun _ hk => ⟨hk.1.2, ⟨hk.2, ⟨hk.1.1.1, hk.1.1.2⟩⟩⟩)), (rM HO_454002 (fun _ hk => ⟨hk.1.2, ⟨hk.2, ⟨hk.1.1.1, hk.1.1.2⟩⟩⟩)), (rM HO_454005 (fun _ hk => ⟨hk.1.2, ⟨hk.2, ⟨hk.1.1.1, hk.1.1.2⟩⟩⟩)), (kZb BK394), (kZb BK395), (kZb BK424), (kZb BK437), (kZb BK453), (kZb BK505), GW505.out, GE505.out, NB394_505.out, NB505_394.out, NB395_505.out, NB505_395.out, NB424_505.out, NB505_424.out, NB437_505.out, NB505_437.out, NB453_505.out, NB505_453.out, BB⟩)
            ·skip
             refine box_step ?hg (N := 16) ?hd (cs := #[.slice none 0 0, .int .i64 0, .slice none 0 0, .int .i64 0, .int .i64 0, .slice none 0 0]) (t := 37) ?hr ?_; (case hd => rfl); (case hg => rfl); (case hr => exact GR)
             intro gb505 hg w156 hbox hb
             replace HO_425000 := rbB HO_425000 hb
             replace HO_425002 := rbB HO_425002 hb
             replace HO_425005 := rbB HO_425005 hb
             replace HO_438000 := rbB HO_438000 hb
             replace HO_438002 := rbB HO_438002 hb
             replace HO_438005 := rbB HO_438005 hb
             replace HO_454000 := rbB HO_454000 hb
             replace HO_454002 := rbB HO_454002 hb
             replace HO_454005 := rbB HO_454005 hb
             have BK505 := Aside0.mk (hbox)
             have GW505 := szB hg
             have GE505 := szB hg
             replace HB := bbB hb
             have NB394_505 := nlB BK394 hg
             have NB505_394 := ngB BK394 hg
             replace BK394 := kbB BK394 hb
             have NB395_505 := nlB BK395 hg
             have NB505_395 := ngB BK395 hg
             replace BK395 := kbB BK395 hb
             have NB424_505 := nlB BK424 hg
             have NB505_424 := ngB BK424 hg
             replace BK424 := kbB BK424 hb
             have NB437_505 := nlB BK437 hg
             have NB505_437 := ngB BK437 hg
             replace BK437 := kbB BK437 hb
             have NB453_505 := nlB BK453 hg
             have NB505_453 := ngB BK453 hg
             replace BK453 := kbB BK453 hb
             clear hb hbox hg
             refine hK.out _ _ ⟨kZc BK394 0, kZc BK394 1, kZc BK394 2, kZc BK394 3, kZc BK394 4, kZc BK394 5, kZc BK395 0, kZc BK395 1⟩ (fun hHeld => ?_)
             clear hK K
             refine nZm (h := ?_)
             refine oZn 1 (some 85) HT_ (h := fun K hK => ?_)
             refine goes_ Try.func7 (by kernel_rfl) rfl #[.agg #[.slice A0_0 l0_0.length c0_0, .int .i64 a0_1, .slice A0_2 l0_2.length c0_2, .int .i64 a0_3, .int .i64 a0_4, .slice A0_5 l0_5.length c0_5]] (by rfl) rfl rfl MP ?_
             with_reducible refine (laws_toShop.calls kj93 _ _ l0_0 a0_1 _ _ l0_2 a0_3 a0_4 _ _ l0_5 t478 t481 t482 t485 t486 t487 _ ?side1 ?side2 ?side3 ?side4 ?side5 ?side6 A143.out).mono ?_
             (case side1 => exact cZr (Kd.C_below HR0_0.out HB.out))
             (case side2 => exact HC0_0.out)
             (case side3 => exact cZr (Kd.C_below HR0_2.out HB.out))
             (case side4 => exact HC0_2.out)
             (case side5 => exact cZr (Kd.C_below HR0_5.out HB.out))
             (case side6 => exact HC0_5.out)
             rintro e w157 ⟨v479, v483, v488, rfl, ho0, ho1, ho2, hb⟩
             refine ⟨_, rfl, ?_⟩
             have HO480 := Aside0.mk (Kd.R_lower (Kd.R_new' (Kd.R_new' (Kd.R_new' ho0 (Kd.R_lt (rZr HO_425000))) (Kd.R_lt (rZr HO_438000))) (Kd.R_lt (rZr HO_454000))) (below_size BB))
             replace HO_425000 := reB HO_425000 ho0 hb
             replace HO_438000 := reB HO_438000 ho0 hb
             replace HO_454000 := reB HO_454000 ho0 hb
             have HO484 := Aside0.mk (Kd.R_lower (Kd.R_new' (Kd.R_new' (Kd.R_new' ho1 (Kd.R_lt (rZr HO_425002))) (Kd.R_lt (rZr HO_438002))) (Kd.R_lt (rZr HO_454002))) (below_size BB))
             replace HO_425002 := reB HO_425002 ho1 hb
             replace HO_438002 := reB HO_438002 ho1 hb
             replace HO_454002 := reB HO_454002 ho1 hb
             have HO489 := Aside0.mk (Kd.R_lower (Kd.R_new' (Kd.R_new' (Kd.R_new' ho2 (Kd.R_lt (rZr HO_425005))) (Kd.R_lt (rZr HO_438005))) (Kd.R_lt (rZr HO_454005))) (below_size BB))
             replace HO_425005 := reB HO_425005 ho2 hb
             replace HO_438005 := reB HO_438005 ho2 hb
             replace HO_454005 := reB HO_454005 ho2 hb
             replace BK394 := kbB BK394 hb
             replace BK395 := kbB BK395 hb
             replace BK424 := kbB BK424 hb
             replace BK437 := kbB BK437 hb
             replace BK453 := kbB BK453 hb
             replace BK505 := kbB BK505 hb
             replace HB := bbB hb
             (try clear hb)
             (try clear ho0)
             (try clear ho1)
             (try clear ho2)
             refine hK.out _ _ ⟨kZc BK394 0, kZc BK394 1, kZc BK394 2, kZc BK394 3, kZc BK394 4, kZc BK394 5, kZc BK395 0, kZc BK395 1⟩ (fun hHeld => ?_)
             clear hK K
             refine nZm (h := ?_)
             refine oZn 3 (some 87) HT_ (h := fun K hK => ?_)
             refine goes_ Try.func8 (by kernel_rfl) rfl #[.agg #[.int .i64 a1_0, .int .i64 a1_1]] (by rfl) rfl rfl MP ?_
             with_reducible refine (laws_toPipe.calls a1_0 a1_1 t490 t491 _ A144.out).mono ?_
             rintro e w158 ⟨rfl, hb⟩
             refine ⟨_, rfl, ?_⟩
             replace HO_425000 := rbB HO_425000 hb
             replace HO_425002 := rbB HO_425002 hb
             replace HO_425005 := rbB HO_425005 hb
             replace HO_438000 := rbB HO_438000 hb
             replace HO_438002 := rbB HO_438002 hb
             replace HO_438005 := rbB HO_438005 hb
             replace HO_454000 := rbB HO_454000 hb
             replace HO_454002 := rbB HO_454002 hb
             replace HO_454005 := rbB HO_454005 hb
             replace HO480 := rbB HO480 hb
             replace HO484 := rbB HO484 hb
             replace HO489 := rbB HO489 hb
             replace BK394 := kbB BK394 hb
             replace BK395 := kbB BK395 hb
             replace BK424 := kbB BK424 hb
             replace BK437 := kbB BK437 hb
             replace BK453 := kbB BK453 hb
             replace BK505 := kbB BK505 hb
             replace HB := bbB hb
             (try clear hb)
             obtain ⟨Ao159, co159, eo159⟩ := Kd.R_slice HO480.out
             (first | subst eo159 | (obtain ⟨f4_, f5_⟩ := slI eo159; subst f4_; subst f5_))
             obtain ⟨Ao160, co160, eo160⟩ := Kd.R_slice HO484.out
             (first | subst eo160 | (obtain ⟨f4_, f5_⟩ := slI eo160; subst f4_; subst f5_))
             obtain ⟨Ao161, co161, eo161⟩ := Kd.R_slice HO489.out
             (first | subst eo161 | (obtain ⟨f4_, f5_⟩ := slI eo161; subst f4_; subst f5_))
             refine hK.out _ _ ⟨kZc BK394 0, kZc BK394 1, kZc BK394 2, kZc BK394 3, kZc BK394 4, kZc BK394 5, kZc BK395 0, kZc BK395 1⟩ (fun hHeld => ?_)
             clear hK K
             refine nZm (h := ?_)
             refine oZn 5 (some 89) HT_ (h := fun K hK => ?_)
             refine goes_ Try.func9 (by kernel_rfl) rfl #[.agg #[.slice Ao159 t478.length co159, .int .i64 t481, .slice Ao160 t482.length co160, .int .i64 t485, .int .i64 t486, .slice Ao161 t487.length co161], .agg #[.int .i64 t490, .int .i64 t491], .int .i64 a2] (by rfl) rfl rfl MP ?_
             with_reducible refine (impl_ShopFault.calls _ _ t478 t481 _ _ t482 t485 t486 _ _ t487 t490 t491 a2 t492 t495 t496 t499 t500 t501 t504 _ ?side1 ?side2 ?side3 ?side4 ?side5 ?side6 A145.out).mono ?_
             (case side1 => exact rdC HO480)
             (case side2 => exact (rd1 HO480))
             (case side3 => exact rdC HO484)
             (case side4 => exact (rd1 HO484))
             (case side5 => exact rdC HO489)
             (case side6 => exact (rd1 HO489))
             rintro e w162 ⟨v493, v497, v502, rfl, ho0, ho1, ho2, hb⟩
             refine ⟨_, rfl, ?_⟩
             have HO494 := Aside0.mk (Kd.R_lower (Kd.R_new' (Kd.R_new' (Kd.R_new' (Kd.R_new' ho0 (Kd.R_lt (rZr HO_425000))) (Kd.R_lt (rZr HO_438000))) (Kd.R_lt (rZr HO_454000))) (Kd.R_lt (rZr HO480))) (below_size BB))
             replace HO_425000 := reB HO_425000 ho0 hb
             replace HO_438000 := reB HO_438000 ho0 hb
             replace HO_454000 := reB HO_454000 ho0 hb
             replace HO480 := reB HO480 ho0 hb
             have HO498 := Aside0.mk (Kd.R_lower (Kd.R_new' (Kd.R_new' (Kd.R_new' (Kd.R_new' ho1 (Kd.R_lt (rZr HO_425002))) (Kd.R_lt (rZr HO_438002))) (Kd.R_lt (rZr HO_454002))) (Kd.R_lt (rZr HO484))) (below_size BB))
             replace HO_425002 := reB HO_425002 ho1 hb
             replace HO_438002 := reB HO_438002 ho1 hb
             replace HO_454002 := reB HO_454002 ho1 hb
             replace HO484 := reB HO484 ho1 hb
             have HO503 := Aside0.mk (Kd.R_lower (Kd.R_new' (Kd.R_new' (Kd.R_new' (Kd.R_new' ho2 (Kd.R_lt (rZr HO_425005))) (Kd.R_lt (rZr HO_438005))) (Kd.R_lt (rZr HO_454005))) (Kd.R_lt (rZr HO489))) (below_size BB))
             replace HO_425005 := reB HO_425005 ho2 hb
             replace HO_438005 := reB HO_438005 ho2 hb
             replace HO_454005 := reB HO_454005 ho2 hb
             replace HO489 := reB HO489 ho2 hb
             replace BK394 := kbB BK394 hb
             replace BK395 := kbB BK395 hb
             replace BK424 := kbB BK424 hb
             replace BK437 := kbB BK437 hb
             replace BK453 := kbB BK453 hb
             replace BK505 := kbB BK505 hb
             replace HB := bbB hb
             (try clear hb)
             (try clear ho0)
             (try clear ho1)
             (try clear ho2)
             refine hK.out _ _ ⟨kZc BK394 0, kZc BK394 1, kZc BK394 2, kZc BK394 3, kZc BK394 4, kZc BK394 5, kZc BK395 0, kZc BK395 1⟩ (fun hHeld => ?_)
             clear hK K
             refine nZm (h := ?_)
             refine pZu 6 83 HT_ (h := ?_)
             refine pZu 7 90 HT_ (h := ?_)
             refine pZu 8 91 HT_ (h := ?_)
             exact nR (hCont (.slice Ao159 t478.length co159, .slice Ao160 t482.length co160, .slice Ao161 t487.length co161, v493, v497, v502, gb505) _ ⟨hHeld, (rM HO480 (fun _ hk => ⟨hk.2, ⟨hk.1.1.1.2, ⟨hk.1.1.2, hk.1.2⟩⟩⟩)), (rM HO484 (fun _ hk => ⟨hk.2, ⟨hk.1.1.1.2, ⟨hk.1.1.2, hk.1.2⟩⟩⟩)), (rM HO489 (fun _ hk => ⟨hk.2, ⟨hk.1.1.1.2, ⟨hk.1.1.2, hk.1.2⟩⟩⟩)), (rM HO494 (fun _ hk => ⟨hk.2, ⟨hk.1.1.1.2, ⟨hk.1.1.2, hk.1.2⟩⟩⟩)), (rM HO498 (fun _ hk => ⟨hk.2, ⟨hk.1.1.1.2, ⟨hk.1.1.2, hk.1.2⟩⟩⟩)), (rM HO503 (fun _ hk => ⟨hk.2, ⟨hk.1.1.1.2, ⟨hk.1.1.2, hk.1.2⟩⟩⟩)), (rM HO_425000 (fun _ hk => ⟨hk.1.2, ⟨hk.2, ⟨hk.1.1.1, hk.1.1.2⟩⟩⟩)), (rM HO_425002 (fun _ hk => ⟨hk.1.2, ⟨hk.2, ⟨hk.1.1.1, hk.1.1.2⟩⟩⟩)), (rM HO_425005 (fun _ hk => ⟨hk.1.2, ⟨hk.2, ⟨hk.1.1.1, hk.1.1.2⟩⟩⟩)), (rM HO_438000 (fun _ hk => ⟨hk.1.2, ⟨hk.2, ⟨hk.1.1.1, hk.1.1.2⟩⟩⟩)), (rM HO_438002 (fun _ hk => ⟨hk.1.2, ⟨hk.2, ⟨hk.1.1.1, hk.1.1.2⟩⟩⟩)), (rM HO_438005 (fun _ hk => ⟨hk.1.2, ⟨hk.2, ⟨hk.1.1.1, hk.1.1.2⟩⟩⟩)), (rM HO_454000 (fun _ hk => ⟨hk.1.2, ⟨hk.2, ⟨hk.1.1.1, hk.1.1.2⟩⟩⟩)), (rM HO_454002 (fun _ hk => ⟨hk.1.2, ⟨hk.2, ⟨hk.1.1.1, hk.1.1.2⟩⟩⟩)), (rM HO_454005 (fun _ hk => ⟨hk.1.2, ⟨hk.2, ⟨hk.1.1.1, hk.1.1.2⟩⟩⟩)), (kZb BK394), (kZb BK395), (kZb BK424), (kZb BK437), (kZb BK453), (kZb BK505), GW505.out, GE505.out, NB394_505.out, NB505_394.out, NB395_505.out, NB505_395.out, NB424_505.out, NB505_424.out, NB437_505.out, NB505_437.out, NB453_505.out, NB505_453.out, BB⟩)
           rintro ⟨v479, v483, v488, v493, v497, v502, gb505⟩ w163 ⟨hS_, h0_, h1_, h2_, h3_, h4_, h5_, h6_, h7_, h8_, h9_, h10_, h11_, h12_, h13_, h14_, h15_, h16_, h17_, h18_, h19_, h20_, h21_, h22_, h23_, h24_, h25_, h26_, h27_, h28_, h29_, h30_, h31_, h32_, h33_⟩
           have n0_ : Aside0 (Kd.R k100 100 w163 w.heap.size (fun k_ => some k_ ≠ (v493 : Value).ownBlock ∧ some k_ ≠ (.slice Ao32 t411.length co32 : Value).ownBlock ∧ some k_ ≠ (.slice Ao45 t469.length co45 : Value).ownBlock ∧ some k_ ≠ (.slice Ao58 t440.length co58 : Value).ownBlock) v479 t478) := ⟨h0_⟩
           have n1_ : Aside0 (Kd.R (Kd.int .i64) 3 w163 w.heap.size (fun k_ => some k_ ≠ (v497 : Value).ownBlock ∧ some k_ ≠ (.slice Ao35 t415.length co35 : Value).ownBlock ∧ some k_ ≠ (.slice Ao50 t470.length co50 : Value).ownBlock ∧ some k_ ≠ (.slice Ao61 t444.length co61 : Value).ownBlock) v483 t482) := ⟨h1_⟩
           have n2_ : Aside0 (Kd.R k61 61 w163 w.heap.size (fun k_ => some k_ ≠ (v502 : Value).ownBlock ∧ some k_ ≠ (.slice Ao39 t420.length co39 : Value).ownBlock ∧ some k_ ≠ (.slice Ao51 t471.length co51 : Value).ownBlock ∧ some k_ ≠ (.slice Ao65 t449.length co65 : Value).ownBlock) v488 t487) := ⟨h2_⟩
           have n3_ : Aside0 (Kd.R k100 100 w163 w.heap.size (fun k_ => some k_ ≠ (v479 : Value).ownBlock ∧ some k_ ≠ (.slice Ao32 t411.length co32 : Value).ownBlock ∧ some k_ ≠ (.slice Ao45 t469.length co45 : Value).ownBlock ∧ some k_ ≠ (.slice Ao58 t440.length co58 : Value).ownBlock) v493 t492) := ⟨h3_⟩
           have n4_ : Aside0 (Kd.R (Kd.int .i64) 3 w163 w.heap.size (fun k_ => some k_ ≠ (v483 : Value).ownBlock ∧ some k_ ≠ (.slice Ao35 t415.length co35 : Value).ownBlock ∧ some k_ ≠ (.slice Ao50 t470.length co50 : Value).ownBlock ∧ some k_ ≠ (.slice Ao61 t444.length co61 : Value).ownBlock) v497 t496) := ⟨h4_⟩
           have n5_ : Aside0 (Kd.R k61 61 w163 w.heap.size (fun k_ => some k_ ≠ (v488 : Value).ownBlock ∧ some k_ ≠ (.slice Ao39 t420.length co39 : Value).ownBlock ∧ some k_ ≠ (.slice Ao51 t471.length co51 : Value).ownBlock ∧ some k_ ≠ (.slice Ao65 t449.length co65 : Value).ownBlock) v502 t501) := ⟨h5_⟩
           have n6_ : Aside0 (Kd.R k100 100 w163 w.heap.size (fun k_ => some k_ ≠ (v479 : Value).ownBlock ∧ some k_ ≠ (v493 : Value).ownBlock ∧ some k_ ≠ (.slice Ao45 t469.length co45 : Value).ownBlock ∧ some k_ ≠ (.slice Ao58 t440.length co58 : Value).ownBlock) (.slice Ao32 t411.length co32) t411) := ⟨h6_⟩
           have n7_ : Aside0 (Kd.R (Kd.int .i64) 3 w163 w.heap.size (fun k_ => some k_ ≠ (v483 : Value).ownBlock ∧ some k_ ≠ (v497 : Value).ownBlock ∧ some k_ ≠ (.slice Ao50 t470.length co50 : Value).ownBlock ∧ some k_ ≠ (.slice Ao61 t444.length co61 : Value).ownBlock) (.slice Ao35 t415.length co35) t415) := ⟨h7_⟩
           have n8_ : Aside0 (Kd.R k61 61 w163 w.heap.size (fun k_ => some k_ ≠ (v488 : Value).ownBlock ∧ some k_ ≠ (v502 : Value).ownBlock ∧ some k_ ≠ (.slice Ao51 t471.length co51 : Value).ownBlock ∧ some k_ ≠ (.slice Ao65 t449.length co65 : Value).ownBlock) (.slice Ao39 t420.length co39) t420) := ⟨h8_⟩
           have n9_ : Aside0 (Kd.R k100 100 w163 w.heap.size (fun k_ => some k_ ≠ (v479 : Value).ownBlock ∧ some k_ ≠ (v493 : Value).ownBlock ∧ some k_ ≠ (.slice Ao32 t411.length co32 : Value).ownBlock ∧ some k_ ≠ (.slice Ao58 t440.length co58 : Value).ownBlock) (.slice Ao45 t469.length co45) t469) := ⟨h9_⟩
           have n10_ : Aside0 (Kd.R (Kd.int .i64) 3 w163 w.heap.size (fun k_ => some k_ ≠ (v483 : Value).ownBlock ∧ some k_ ≠ (v497 : Value).ownBlock ∧ some k_ ≠ (.slice Ao35 t415.length co35 : Value).ownBlock ∧ some k_ ≠ (.slice Ao61 t444.length co61 : Value).ownBlock) (.slice Ao50 t470.length co50) t470) := ⟨h10_⟩
           have n11_ : Aside0 (Kd.R k61 61 w163 w.heap.size (fun k_ => some k_ ≠ (v488 : Value).ownBlock ∧ some k_ ≠ (v502 : Value).ownBlock ∧ some k_ ≠ (.slice Ao39 t420.length co39 : Value).ownBlock ∧ some k_ ≠ (.slice Ao65 t449.length co65 : Value).ownBlock) (.slice Ao51 t471.length co51) t471) := ⟨h11_⟩
           have n12_ : Aside0 (Kd.R k100 100 w163 w.heap.size (fun k_ => some k_ ≠ (v479 : Value).ownBlock ∧ some k_ ≠ (v493 : Value).ownBlock ∧ some k_ ≠ (.slice Ao32 t411.length co32 : Value).ownBlock ∧ some k_ ≠ (.slice Ao45 t469.length co45 : Value).ownBlock) (.slice Ao58 t440.length co58) t474) := ⟨h12_⟩
           have n13_ : Aside0 (Kd.R (Kd.int .i64) 3 w163 w.heap.size (fun k_ => some k_ ≠ (v483 : Value).ownBlock ∧ some k_ ≠ (v497 : Value).ownBlock ∧ some k_ ≠ (.slice Ao35 t415.length co35 : Value).ownBlock ∧ some k_ ≠ (.slice Ao50 t470.length co50 : Value).ownBlock) (.slice Ao61 t444.length co61) t475) := ⟨h13_⟩
           have n14_ : Aside0 (Kd.R k61 61 w163 w.heap.size (fun k_ => some k_ ≠ (v488 : Value).ownBlock ∧ some k_ ≠ (v502 : Value).ownBlock ∧ some k_ ≠ (.slice Ao39 t420.length co39 : Value).ownBlock ∧ some k_ ≠ (.slice Ao51 t471.length co51 : Value).ownBlock) (.slice Ao65 t449.length co65) t476) := ⟨h14_⟩
           have n15_ : Aside0 (w163.heap[gb394]? = some (.cells #[.slice A0_0 l0_0.length c0_0, .int .i64 a0_1, .slice A0_2 l0_2.length c0_2, .int .i64 a0_3, .int .i64 a0_4, .slice A0_5 l0_5.length c0_5] 28 (0, 0))) := ⟨h15_⟩
           have n16_ : Aside0 (w163.heap[gb395]? = some (.cells #[.int .i64 a1_0, .int .i64 a1_1] 30 (0, 0))) := ⟨h16_⟩
           have n17_ : Aside0 (w163.heap[gb424]? = some (.cells #[.slice Ao32 t411.length co32, .int .i64 t414, .slice Ao35 t415.length co35, .int .i64 t418, .int .i64 t419, .slice Ao39 t420.length co39] 37 (0, 0))) := ⟨h17_⟩
           have n18_ : Aside0 (w163.heap[gb437]? = some (.cells #[.slice Ao45 t469.length co45, .int .i64 t428, .slice Ao50 t470.length co50, .int .i64 t432, .int .i64 t433, .slice Ao51 t471.length co51] 37 (0, 0))) := ⟨h18_⟩
           have n19_ : Aside0 (w163.heap[gb453]? = some (.cells #[.slice Ao58 t440.length co58, .int .i64 t443, .slice Ao61 t444.length co61, .int .i64 t447, .int .i64 t448, .slice Ao65 t449.length co65] 37 (0, 0))) := ⟨h19_⟩
           have n20_ : Aside0 (w163.heap[gb505]? = some (.cells #[.slice none 0 0, .int .i64 0, .slice none 0 0, .int .i64 0, .int .i64 0, .slice none 0 0] 37 (0, 0))) := ⟨h20_⟩
           have n21_ : Aside0 (w.heap.size ≤ gb505) := ⟨h21_⟩
           have n22_ : Aside0 (w.heap.size ≤ gb505) := ⟨h22_⟩
           have n23_ : Aside0 (gb394 ≠ gb505) := ⟨h23_⟩
           have n24_ : Aside0 (gb505 ≠ gb394) := ⟨h24_⟩
           have n25_ : Aside0 (gb395 ≠ gb505) := ⟨h25_⟩
           have n26_ : Aside0 (gb505 ≠ gb395) := ⟨h26_⟩
           have n27_ : Aside0 (gb424 ≠ gb505) := ⟨h27_⟩
           have n28_ : Aside0 (gb505 ≠ gb424) := ⟨h28_⟩
           have n29_ : Aside0 (gb437 ≠ gb505) := ⟨h29_⟩
           have n30_ : Aside0 (gb505 ≠ gb437) := ⟨h30_⟩
           have n31_ : Aside0 (gb453 ≠ gb505) := ⟨h31_⟩
           have n32_ : Aside0 (gb505 ≠ gb453) := ⟨h32_⟩
           have n33_ : Aside0 (Below w.heap.size w w163) := ⟨h33_⟩
           clear HO_425000
           clear HO_425002
           clear HO_425005
           clear HO_438000
           clear HO_438002
           clear HO_438005
           clear HO_454000
           clear HO_454002
           clear HO_454005
           clear BK394
           clear BK395
           clear BK424
           clear BK437
           clear BK453
           clear HB
           clear h0_ h1_ h2_ h3_ h4_ h5_ h6_ h7_ h8_ h9_ h10_ h11_ h12_ h13_ h14_ h15_ h16_ h17_ h18_ h19_ h20_ h21_ h22_ h23_ h24_ h25_ h26_ h27_ h28_ h29_ h30_ h31_ h32_ h33_
           have HO480 := n0_
           have HO484 := n1_
           have HO489 := n2_
           have HO494 := n3_
           have HO498 := n4_
           have HO503 := n5_
           have HO_425000 := n6_
           have HO_425002 := n7_
           have HO_425005 := n8_
           have HO_438000 := n9_
           have HO_438002 := n10_
           have HO_438005 := n11_
           have HO_454000 := n12_
           have HO_454002 := n13_
           have HO_454005 := n14_
           have BK394 := n15_
           have BK395 := n16_
           have BK424 := n17_
           have BK437 := n18_
           have BK453 := n19_
           have BK505 := n20_
           have GW505 := n21_
           have GE505 := n22_
           have NB394_505 := n23_
           have NB505_394 := n24_
           have NB395_505 := n25_
           have NB505_395 := n26_
           have NB424_505 := n27_
           have NB505_424 := n28_
           have NB437_505 := n29_
           have NB505_437 := n30_
           have NB453_505 := n31_
           have NB505_453 := n32_
           have HB := n33_
           clear n0_ n1_ n2_ n3_ n4_ n5_ n6_ n7_ n8_ n9_ n10_ n11_ n12_ n13_ n14_ n15_ n16_ n17_ n18_ n19_ n20_ n21_ n22_ n23_ n24_ n25_ n26_ n27_ n28_ n29_ n30_ n31_ n32_ n33_
           have hHeld : w163.cell? ⟨gb394, 0, none⟩ = some (.slice A0_0 l0_0.length c0_0) ∧ w163.cell? ⟨gb394, 1, none⟩ = some (.int .i64 a0_1) ∧ w163.cell? ⟨gb394, 2, none⟩ = some (.slice A0_2 l0_2.length c0_2) ∧ w163.cell? ⟨gb394, 3, none⟩ = some (.int .i64 a0_3) ∧ w163.cell? ⟨gb394, 4, none⟩ = some (.int .i64 a0_4) ∧ w163.cell? ⟨gb394, 5, none⟩ = some (.slice A0_5 l0_5.length c0_5) ∧ w163.cell? ⟨gb395, 0, none⟩ = some (.int .i64 a1_0) ∧ w163.cell? ⟨gb395, 1, none⟩ = some (.int .i64 a1_1) := hS_
           obtain ⟨Ao164, co164, eo164⟩ := Kd.R_slice HO494.out
           (first | subst eo164 | (obtain ⟨f4_, f5_⟩ := slI eo164; subst f4_; subst f5_))
           obtain ⟨Ao167, co167, eo167⟩ := Kd.R_slice HO498.out
           (first | subst eo167 | (obtain ⟨f4_, f5_⟩ := slI eo167; subst f4_; subst f5_))
           obtain ⟨Ao171, co171, eo171⟩ := Kd.R_slice HO503.out
           (first | subst eo171 | (obtain ⟨f4_, f5_⟩ := slI eo171; subst f4_; subst f5_))
           refine norm_ (a' := ?_) ?_ ?_
           rotate_left
           ·simp only [putAll, Act.put, List.setIfInBounds_toArray, List.set_cons_zero, List.set_cons_succ]
            rfl
           refine oZn 10 none HT_ (h := fun K hK => ?_)
           have hs165 := kZc BK505 0
           have hfs165 := blk_frozen BK505.out 0
           have hns165_0 := NB394_505.out
           have hns165_1 := NB395_505.out
           have hns165_2 := NB424_505.out
           have hns165_3 := NB437_505.out
           have hns165_4 := NB453_505.out
           have hms165_0 := NB505_394.out
           have hms165_1 := NB505_395.out
           have hms165_2 := NB505_424.out
           have hms165_3 := NB505_437.out
           have hms165_4 := NB505_453.out
           have hs166 := kZc BK505 1
           have hfs166 := blk_frozen BK505.out 1
           have hns166_0 := NB394_505.out
           have hns166_1 := NB395_505.out
           have hns166_2 := NB424_505.out
           have hns166_3 := NB437_505.out
           have hns166_4 := NB453_505.out
           have hms166_0 := NB505_394.out
           have hms166_1 := NB505_395.out
           have hms166_2 := NB505_424.out
           have hms166_3 := NB505_437.out
           have hms166_4 := NB505_453.out
           have hs168 := kZc BK505 2
           have hfs168 := blk_frozen BK505.out 2
           have hns168_0 := NB394_505.out
           have hns168_1 := NB395_505.out
           have hns168_2 := NB424_505.out
           have hns168_3 := NB437_505.out
           have hns168_4 := NB453_505.out
           have hms168_0 := NB505_394.out
           have hms168_1 := NB505_395.out
           have hms168_2 := NB505_424.out
           have hms168_3 := NB505_437.out
           have hms168_4 := NB505_453.out
           have hs169 := kZc BK505 3
           have hfs169 := blk_frozen BK505.out 3
           have hns169_0 := NB394_505.out
           have hns169_1 := NB395_505.out
           have hns169_2 := NB424_505.out
           have hns169_3 := NB437_505.out
           have hns169_4 := NB453_505.out
           have hms169_0 := NB505_394.out
           have hms169_1 := NB505_395.out
           have hms169_2 := NB505_424.out
           have hms169_3 := NB505_437.out
           have hms169_4 := NB505_453.out
           have hs170 := kZc BK505 4
           have hfs170 := blk_frozen BK505.out 4
           have hns170_0 := NB394_505.out
           have hns170_1 := NB395_505.out
           have hns170_2 := NB424_505.out
           have hns170_3 := NB437_505.out
           have hns170_4 := NB453_505.out
           have hms170_0 := NB505_394.out
           have hms170_1 := NB505_395.out
           have hms170_2 := NB505_424.out
           have hms170_3 := NB505_437.out
           have hms170_4 := NB505_453.out
           have hs172 := kZc BK505 5
           have hfs172 := blk_frozen BK505.out 5
           have hns172_0 := NB394_505.out
           have hns172_1 := NB395_505.out
           have hns172_2 := NB424_505.out
           have hns172_3 := NB437_505.out
           have hns172_4 := NB453_505.out
           have hms172_0 := NB505_394.out
           have hms172_1 := NB505_395.out
           have hms172_2 := NB505_424.out
           have hms172_3 := NB505_437.out
           have hms172_4 := NB505_453.out
           refine skip_ (w1 := ?_) (by rfl) rfl ?_ ?_
           rotate_left
           ·go_simp
            rfl
           refine hK.out _ _ ⟨((cell_far (p := ⟨gb505, _, none⟩) NB394_505.out _).trans (((cell_far (p := ⟨gb505, _, none⟩) NB394_505.out _).trans (((cell_far (p := ⟨gb505, _, none⟩) NB394_505.out _).trans (((cell_far (p := ⟨gb505, _, none⟩) NB394_505.out _).trans (((cell_far (p := ⟨gb505, _, none⟩) NB394_505.out _).trans (((cell_far (p := ⟨gb505, _, none⟩) NB394_505.out _).trans (hHeld.1)))))))))))), ((cell_far (p := ⟨gb505, _, none⟩) NB394_505.out _).trans (((cell_far (p := ⟨gb505, _, none⟩) NB394_505.out _).trans (((cell_far (p := ⟨gb505, _, none⟩) NB394_505.out _).trans (((cell_far (p := ⟨gb505, _, none⟩) NB394_505.out _).trans (((cell_far (p := ⟨gb505, _, none⟩) NB394_505.out _).trans (((cell_far (p := ⟨gb505, _, none⟩) NB394_505.out _).trans (hHeld.2.1)))))))))))), ((cell_far (p := ⟨gb505, _, none⟩) NB394_505.out _).trans (((cell_far (p := ⟨gb505, _, none⟩) NB394_505.out _).trans (((cell_far (p := ⟨gb505, _, none⟩) NB394_505.out _).trans (((cell_far (p := ⟨gb505, _, none⟩) NB394_505.out _).trans (((cell_far (p := ⟨gb505, _, none⟩) NB394_505.out _).trans (((cell_far (p := ⟨gb505, _, none⟩) NB394_505.out _).trans (hHeld.2.2.1)))))))))))), ((cell_far (p := ⟨gb505, _, none⟩) NB394_505.out _).trans (((cell_far (p := ⟨gb505, _, none⟩) NB394_505.out _).trans (((cell_far (p := ⟨gb505, _, none⟩) NB394_505.out _).trans (((cell_far (p := ⟨gb505, _, none⟩) NB394_505.out _).trans (((cell_far (p := ⟨gb505, _, none⟩) NB394_505.out _).trans (((cell_far (p := ⟨gb505, _, none⟩) NB394_505.out _).trans (hHeld.2.2.2.1)))))))))))), ((cell_far (p := ⟨gb505, _, none⟩) NB394_505.out _).trans (((cell_far (p := ⟨gb505, _, none⟩) NB394_505.out _).trans (((cell_far (p := ⟨gb505, _, none⟩) NB394_505.out _).trans (((cell_far (p := ⟨gb505, _, none⟩) NB394_505.out _).trans (((cell_far (p := ⟨gb505, _, none⟩) NB394_505.out _).trans (((cell_far (p := ⟨gb505, _, none⟩) NB394_505.out _).trans (hHeld.2.2.2.2.1)))))))))))), ((cell_far (p := ⟨gb505, _, none⟩) NB394_505.out _).trans (((cell_far (p := ⟨gb505, _, none⟩) NB394_505.out _).trans (((cell_far (p := ⟨gb505, _, none⟩) NB394_505.out _).trans (((cell_far (p := ⟨gb505, _, none⟩) NB394_505.out _).trans (((cell_far (p := ⟨gb505, _, none⟩) NB394_505.out _).trans (((cell_far (p := ⟨gb505, _, none⟩) NB394_505.out _).trans (hHeld.2.2.2.2.2.1)))))))))))), ((cell_far (p := ⟨gb505, _, none⟩) NB395_505.out _).trans (((cell_far (p := ⟨gb505, _, none⟩) NB395_505.out _).trans (((cell_far (p := ⟨gb505, _, none⟩) NB395_505.out _).trans (((cell_far (p := ⟨gb505, _, none⟩) NB395_505.out _).trans (((cell_far (p := ⟨gb505, _, none⟩) NB395_505.out _).trans (((cell_far (p := ⟨gb505, _, none⟩) NB395_505.out _).trans (hHeld.2.2.2.2.2.2.1)))))))))))), ((cell_far (p := ⟨gb505, _, none⟩) NB395_505.out _).trans (((cell_far (p := ⟨gb505, _, none⟩) NB395_505.out _).trans (((cell_far (p := ⟨gb505, _, none⟩) NB395_505.out _).trans (((cell_far (p := ⟨gb505, _, none⟩) NB395_505.out _).trans (((cell_far (p := ⟨gb505, _, none⟩) NB395_505.out _).trans (((cell_far (p := ⟨gb505, _, none⟩) NB395_505.out _).trans (hHeld.2.2.2.2.2.2.2))))))))))))⟩ (fun hHeld => ?_)
           clear hK K
           refine pZu 11 17 HT_ (h := ?_)
           refine done_ (done_of HT_.out (by kernel_rfl)) ?_
           go_upto_region 25 with (fail)
           go_cut [100] (fun v100 wc => ∃ (kq : Nat) (x100_145 : Bool), v100 = .bool x100_145 ∧ Aside0 (laws_FnExactShopFault.j2 kq t473 x100_145 t474 t443 t475 t447 t448 t476 = some r) ∧ Aside0 (kq ≤ kj93) ∧ Aside0 (Kd.R k100 100 wc w.heap.size (fun k_ => some k_ ≠ ((.slice Ao45 t469.length co45) : Value).ownBlock ∧ some k_ ≠ ((.slice Ao58 t440.length co58) : Value).ownBlock ∧ some k_ ≠ ((.slice Ao164 t492.length co164) : Value).ownBlock) (.slice Ao32 t411.length co32) t411) ∧ Aside0 (Kd.R (Kd.int .i64) 3 wc w.heap.size (fun k_ => some k_ ≠ ((.slice Ao50 t470.length co50) : Value).ownBlock ∧ some k_ ≠ ((.slice Ao61 t444.length co61) : Value).ownBlock ∧ some k_ ≠ ((.slice Ao167 t496.length co167) : Value).ownBlock) (.slice Ao35 t415.length co35) t415) ∧ Aside0 (Kd.R k61 61 wc w.heap.size (fun k_ => some k_ ≠ ((.slice Ao51 t471.length co51) : Value).ownBlock ∧ some k_ ≠ ((.slice Ao65 t449.length co65) : Value).ownBlock ∧ some k_ ≠ ((.slice Ao171 t501.length co171) : Value).ownBlock) (.slice Ao39 t420.length co39) t420) ∧ Aside0 (Kd.R k100 100 wc w.heap.size (fun k_ => some k_ ≠ ((.slice Ao32 t411.length co32) : Value).ownBlock ∧ some k_ ≠ ((.slice Ao58 t440.length co58) : Value).ownBlock ∧ some k_ ≠ ((.slice Ao164 t492.length co164) : Value).ownBlock) (.slice Ao45 t469.length co45) t469) ∧ Aside0 (Kd.R (Kd.int .i64) 3 wc w.heap.size (fun k_ => some k_ ≠ ((.slice Ao35 t415.length co35) : Value).ownBlock ∧ some k_ ≠ ((.slice Ao61 t444.length co61) : Value).ownBlock ∧ some k_ ≠ ((.slice Ao167 t496.length co167) : Value).ownBlock) (.slice Ao50 t470.length co50) t470) ∧ Aside0 (Kd.R k61 61 wc w.heap.size (fun k_ => some k_ ≠ ((.slice Ao39 t420.length co39) : Value).ownBlock ∧ some k_ ≠ ((.slice Ao65 t449.length co65) : Value).ownBlock ∧ some k_ ≠ ((.slice Ao171 t501.length co171) : Value).ownBlock) (.slice Ao51 t471.length co51) t471) ∧ Aside0 (Kd.R k100 100 wc w.heap.size (fun k_ => some k_ ≠ ((.slice Ao32 t411.length co32) : Value).ownBlock ∧ some k_ ≠ ((.slice Ao45 t469.length co45) : Value).ownBlock ∧ some k_ ≠ ((.slice Ao164 t492.length co164) : Value).ownBlock) (.slice Ao58 t440.length co58) t474) ∧ Aside0 (Kd.R (Kd.int .i64) 3 wc w.heap.size (fun k_ => some k_ ≠ ((.slice Ao35 t415.length co35) : Value).ownBlock ∧ some k_ ≠ ((.slice Ao50 t470.length co50) : Value).ownBlock ∧ some k_ ≠ ((.slice Ao167 t496.length co167) : Value).ownBlock) (.slice Ao61 t444.length co61) t475) ∧ Aside0 (Kd.R k61 61 wc w.heap.size (fun k_ => some k_ ≠ ((.slice Ao39 t420.length co39) : Value).ownBlock ∧ some k_ ≠ ((.slice Ao51 t471.length co51) : Value).ownBlock ∧ some k_ ≠ ((.slice Ao171 t501.length co171) : Value).ownBlock) (.slice Ao65 t449.length co65) t476) ∧ Aside0 (Kd.R k100 100 wc w.heap.size (fun k_ => some k_ ≠ ((.slice Ao32 t411.length co32) : Value).ownBlock ∧ some k_ ≠ ((.slice Ao45 t469.length co45) : Value).ownBlock ∧ some k_ ≠ ((.slice Ao58 t440.length co58) : Value).ownBlock) (.slice Ao164 t492.length co164) t492) ∧ Aside0 (Kd.R (Kd.int .i64) 3 wc w.heap.size (fun k_ => some k_ ≠ ((.slice Ao35 t415.length co35) : Value).ownBlock ∧ some k_ ≠ ((.slice Ao50 t470.length co50) : Value).ownBlock ∧ some k_ ≠ ((.slice Ao61 t444.length co61) : Value).ownBlock) (.slice Ao167 t496.length co167) t496) ∧ Aside0 (Kd.R k61 61 wc w.heap.size (fun k_ => some k_ ≠ ((.slice Ao39 t420.length co39) : Value).ownBlock ∧ some k_ ≠ ((.slice Ao51 t471.length co51) : Value).ownBlock ∧ some k_ ≠ ((.slice Ao65 t449.length co65) : Value).ownBlock) (.slice Ao171 t501.length co171) t501) ∧ Aside0 (wc.heap[gb394]? = some (.cells #[(.slice A0_0 l0_0.length c0_0), .int .i64 a0_1, (.slice A0_2 l0_2.length c0_2), .int .i64 a0_3, .int .i64 a0_4, (.slice A0_5 l0_5.length c0_5)] 28 (0, 0))) ∧ Aside0 (wc.heap[gb395]? = some (.cells #[.int .i64 a1_0, .int .i64 a1_1] 30 (0, 0))) ∧ Aside0 (wc.heap[gb424]? = some (.cells #[(.slice Ao32 t411.length co32), .int .i64 t414, (.slice Ao35 t415.length co35), .int .i64 t418, .int .i64 t419, (.slice Ao39 t420.length co39)] 37 (0, 0))) ∧ Aside0 (wc.heap[gb437]? = some (.cells #[(.slice Ao45 t469.length co45), .int .i64 t428, (.slice Ao50 t470.length co50), .int .i64 t432, .int .i64 t433, (.slice Ao51 t471.length co51)] 37 (0, 0))) ∧ Aside0 (wc.heap[gb453]? = some (.cells #[(.slice Ao58 t440.length co58), .int .i64 t443, (.slice Ao61 t444.length co61), .int .i64 t447, .int .i64 t448, (.slice Ao65 t449.length co65)] 37 (0, 0))) ∧ Aside0 (wc.heap[gb505]? = some (.cells #[(.slice Ao164 t492.length co164), .int .i64 t495, (.slice Ao167 t496.length co167), .int .i64 t499, .int .i64 t500, (.slice Ao171 t501.length co171)] 37 (0, 0))) ∧ Aside0 (Below w.heap.size w wc))
           case first =>
            have H := HC146.out
            clear HC146
            obtain ⟨t506, A173, H⟩ := bsI H
            by_cases c174 : t506 = true
            ·subst c174
             rw [if_pos rfl] at H
             have H' := Aside0.mk H
             clear H
             have hnb175 := NB505_394.out
             have hnc175 := NB394_505.out
             have hnb176 := NB505_395.out
             have hnc176 := NB395_505.out
             have hnb177 := NB505_424.out
             have hnc177 := NB424_505.out
             have hnb178 := NB505_437.out
             have hnc178 := NB437_505.out
             have hnb179 := NB505_453.out
             have hnc179 := NB453_505.out
             obtain ⟨hcz180_0, hcz180_1, hcz180_2, hcz180_3, hcz180_4, hcz180_5, hfz180_0, hfz180_1, hfz180_2, hfz180_3, hfz180_4, hfz180_5⟩ := kZc6 BK505
             have hnb181 := NB424_394.out
             have hnc181 := NB394_424.out
             have hnb182 := NB424_395.out
             have hnc182 := NB395_424.out
             have hnb183 := NB424_437.out
             have hnc183 := NB437_424.out
             have hnb184 := NB424_453.out
             have hnc184 := NB453_424.out
             obtain ⟨hcz185_0, hcz185_1, hcz185_2, hcz185_3, hcz185_4, hcz185_5, hfz185_0, hfz185_1, hfz185_2, hfz185_3, hfz185_4, hfz185_5⟩ := kZc6 BK424
             go_wp2_with (first | ((with_reducible refine gZc 10 (h := ?_)); refine gL 94 Try.func10 #[.agg #[.slice Ao164 t492.length co164, .int .i64 t495, .slice Ao167 t496.length co167, .int .i64 t499, .int .i64 t500, .slice Ao171 t501.length co171], .agg #[.slice Ao32 t411.length co32, .int .i64 t414, .slice Ao35 t415.length co35, .int .i64 t418, .int .i64 t419, .slice Ao39 t420.length co39]] ?_; (with_reducible refine (laws_eqShop.calls kj93 _ _ t492 t495 _ _ t496 t499 t500 _ _ t501 _ _ t411 t414 _ _ t415 t418 t419 _ _ t420 true _ ?side1 ?side2 ?side3 ?side4 ?side5 ?side6 ?side7 ?side8 ?side9 ?side10 ?side11 ?side12 A173.out).mono ?_); (case side1 => exact rdZ HO494); (case side2 => exact (rd1 HO494)); (case side3 => exact rdZ HO498); (case side4 => exact (rd1 HO498)); (case side5 => exact rdZ HO503); (case side6 => exact (rd1 HO503)); (case side7 => exact rdZ HO_425000); (case side8 => exact (rd1 HO_425000)); (case side9 => exact rdZ HO_425002); (case side10 => exact (rd1 HO_425002)); (case side11 => exact rdZ HO_425005); (case side12 => exact (rd1 HO_425005)); rintro e w186 ⟨rfl, hb⟩; refine ⟨_, rfl, ?_⟩; replace HO_425000 := Aside0.mk (Kd.R_below (rZz HO_425000) hb); replace HO_425002 := Aside0.mk (Kd.R_below (rZz HO_425002) hb); replace HO_425005 := Aside0.mk (Kd.R_below (rZz HO_425005) hb); replace HO_438000 := Aside0.mk (Kd.R_below (rZz HO_438000) hb); replace HO_438002 := Aside0.mk (Kd.R_below (rZz HO_438002) hb); replace HO_438005 := Aside0.mk (Kd.R_below (rZz HO_438005) hb); replace HO_454000 := Aside0.mk (Kd.R_below (rZz HO_454000) hb); replace HO_454002 := Aside0.mk (Kd.R_below (rZz HO_454002) hb); replace HO_454005 := Aside0.mk (Kd.R_below (rZz HO_454005) hb); replace HO480 := Aside0.mk (Kd.R_below (rZz HO480) hb); replace HO484 := Aside0.mk (Kd.R_below (rZz HO484) hb); replace HO489 := Aside0.mk (Kd.R_below (rZz HO489) hb); replace HO494 := Aside0.mk (Kd.R_below (rZz HO494) hb); replace HO498 := Aside0.mk (Kd.R_below (rZz HO498) hb); replace HO503 := Aside0.mk (Kd.R_below (rZz HO503) hb); replace BK394 := Aside0.mk (blk_below (g := gb394) (o := .cells #[.slice A0_0 l0_0.length c0_0, .int .i64 a0_1, .slice A0_2 l0_2.length c0_2, .int .i64 a0_3, .int .i64 a0_4, .slice A0_5 l0_5.length c0_5] 28 (0, 0)) (kZq BK394) hb); replace BK395 := Aside0.mk (blk_below (g := gb395) (o := .cells #[.int .i64 a1_0, .int .i64 a1_1] 30 (0, 0)) (kZq BK395) hb); replace BK424 := Aside0.mk (blk_below (g := gb424) (o := .cells #[.slice Ao32 t411.length co32, .int .i64 t414, .slice Ao35 t415.length co35, .int .i64 t418, .int .i64 t419, .slice Ao39 t420.length co39] 37 (0, 0)) (kZq BK424) hb); replace BK437 := Aside0.mk (blk_below (g := gb437) (o := .cells #[.slice Ao45 t469.length co45, .int .i64 t428, .slice Ao50 t470.length co50, .int .i64 t432, .int .i64 t433, .slice Ao51 t471.length co51] 37 (0, 0)) (kZq BK437) hb); replace BK453 := Aside0.mk (blk_below (g := gb453) (o := .cells #[.slice Ao58 t440.length co58, .int .i64 t443, .slice Ao61 t444.length co61, .int .i64 t447, .int .i64 t448, .slice Ao65 t449.length co65] 37 (0, 0)) (kZq BK453) hb); replace BK505 := Aside0.mk (blk_below (g := gb505) (o := .cells #[.slice Ao164 t492.length co164, .int .i64 t495, .slice Ao167 t496.length co167, .int .i64 t499, .int .i64 t500, .slice Ao171 t501.length co171] 37 (0, 0)) (kZq BK505) hb); replace HB := bbB hb; (try clear hb)))
             go_meet
             case rel => exact ⟨_, ((t504 != t423)), RF, H', ⟨by have := HJ16.out; have := HJ93.out; first | omega | exact Nat.le_refl _⟩, ⟨by (try simp only [hl438000_93]); (try simp only [hl438002_93]); (try simp only [hl438005_93]); (with_reducible repeat (first | apply Kd.R_alloc | apply Kd.R_drewN | apply Kd.R_drew)); exact Kd.R_mono HO_425000.out (fun _ hk => ⟨hk.2.2.1, ⟨hk.2.2.2, hk.2.1⟩⟩)⟩, ⟨by (try simp only [hl438000_93]); (try simp only [hl438002_93]); (try simp only [hl438005_93]); (with_reducible repeat (first | apply Kd.R_alloc | apply Kd.R_drewN | apply Kd.R_drew)); exact Kd.R_mono HO_425002.out (fun _ hk => ⟨hk.2.2.1, ⟨hk.2.2.2, hk.2.1⟩⟩)⟩, ⟨by (try simp only [hl438000_93]); (try simp only [hl438002_93]); (try simp only [hl438005_93]); (with_reducible repeat (first | apply Kd.R_alloc | apply Kd.R_drewN | apply Kd.R_drew)); exact Kd.R_mono HO_425005.out (fun _ hk => ⟨hk.2.2.1, ⟨hk.2.2.2, hk.2.1⟩⟩)⟩, ⟨by (try simp only [hl438000_93]); (try simp only [hl438002_93]); (try simp only [hl438005_93]); (with_reducible repeat (first | apply Kd.R_alloc | apply Kd.R_drewN | apply Kd.R_drew)); exact Kd.R_mono HO_438000.out (fun _ hk => ⟨hk.2.2.1, ⟨hk.2.2.2, hk.2.1⟩⟩)⟩, ⟨by (try simp only [hl438000_93]); (try simp only [hl438002_93]); (try simp only [hl438005_93]); (with_reducible repeat (first | apply Kd.R_alloc | apply Kd.R_drewN | apply Kd.R_drew)); exact Kd.R_mono HO_438002.out (fun _ hk => ⟨hk.2.2.1, ⟨hk.2.2.2, hk.2.1⟩⟩)⟩, ⟨by (try simp only [hl438000_93]); (try simp only [hl438002_93]); (try simp only [hl438005_93]); (with_reducible repeat (first | apply Kd.R_alloc | apply Kd.R_drewN | apply Kd.R_drew)); exact Kd.R_mono HO_438005.out (fun _ hk => ⟨hk.2.2.1, ⟨hk.2.2.2, hk.2.1⟩⟩)⟩, ⟨by (try simp only [hl438000_93]); (try simp only [hl438002_93]); (try simp only [hl438005_93]); (with_reducible repeat (first | apply Kd.R_alloc | apply Kd.R_drewN | apply Kd.R_drew)); exact Kd.R_mono HO_454000.out (fun _ hk => ⟨hk.2.2.1, ⟨hk.2.2.2, hk.2.1⟩⟩)⟩, ⟨by (try simp only [hl438000_93]); (try simp only [hl438002_93]); (try simp only [hl438005_93]); (with_reducible repeat (first | apply Kd.R_alloc | apply Kd.R_drewN | apply Kd.R_drew)); exact Kd.R_mono HO_454002.out (fun _ hk => ⟨hk.2.2.1, ⟨hk.2.2.2, hk.2.1⟩⟩)⟩, ⟨by (try simp only [hl438000_93]); (try simp only [hl438002_93]); (try simp only [hl438005_93]); (with_reducible repeat (first | apply Kd.R_alloc | apply Kd.R_drewN | apply Kd.R_drew)); exact Kd.R_mono HO_454005.out (fun _ hk => ⟨hk.2.2.1, ⟨hk.2.2.2, hk.2.1⟩⟩)⟩, ⟨by (try simp only [hl438000_93]); (try simp only [hl438002_93]); (try simp only [hl438005_93]); (with_reducible repeat (first | apply Kd.R_alloc | apply Kd.R_drewN | apply Kd.R_drew)); exact Kd.R_mono HO494.out (fun _ hk => ⟨hk.2.1, ⟨hk.2.2.1, hk.2.2.2⟩⟩)⟩, ⟨by (try simp only [hl438000_93]); (try simp only [hl438002_93]); (try simp only [hl438005_93]); (with_reducible repeat (first | apply Kd.R_alloc | apply Kd.R_drewN | apply Kd.R_drew)); exact Kd.R_mono HO498.out (fun _ hk => ⟨hk.2.1, ⟨hk.2.2.1, hk.2.2.2⟩⟩)⟩, ⟨by (try simp only [hl438000_93]); (try simp only [hl438002_93]); (try simp only [hl438005_93]); (with_reducible repeat (first | apply Kd.R_alloc | apply Kd.R_drewN | apply Kd.R_drew)); exact Kd.R_mono HO503.out (fun _ hk => ⟨hk.2.1, ⟨hk.2.2.1, hk.2.2.2⟩⟩)⟩, ⟨by (try simp only [hl438000_93]); (try simp only [hl438002_93]); (try simp only [hl438005_93]); (with_reducible repeat (first | refine blk_drewN ?_ _ | refine blk_drew ?_ | refine blk_alloc ?_ _)); exact BK394.out⟩, ⟨by (try simp only [hl438000_93]); (try simp only [hl438002_93]); (try simp only [hl438005_93]); (with_reducible repeat (first | refine blk_drewN ?_ _ | refine blk_drew ?_ | refine blk_alloc ?_ _)); exact BK395.out⟩, ⟨by (try simp only [hl438000_93]); (try simp only [hl438002_93]); (try simp only [hl438005_93]); (with_reducible repeat (first | refine blk_drewN ?_ _ | refine blk_drew ?_ | refine blk_alloc ?_ _)); exact BK424.out⟩, ⟨by (try simp only [hl438000_93]); (try simp only [hl438002_93]); (try simp only [hl438005_93]); (with_reducible repeat (first | refine blk_drewN ?_ _ | refine blk_drew ?_ | refine blk_alloc ?_ _)); exact BK437.out⟩, ⟨by (try simp only [hl438000_93]); (try simp only [hl438002_93]); (try simp only [hl438005_93]); (with_reducible repeat (first | refine blk_drewN ?_ _ | refine blk_drew ?_ | refine blk_alloc ?_ _)); exact BK453.out⟩, ⟨by (try simp only [hl438000_93]); (try simp only [hl438002_93]); (try simp only [hl438005_93]); (with_reducible repeat (first | refine blk_drewN ?_ _ | refine blk_drew ?_ | refine blk_alloc ?_ _)); exact BK505.out⟩, ⟨BB⟩⟩
            ·replace c174 := Bool.eq_false_iff.mpr c174
             subst c174
             rw [if_neg nft] at H
             have H' := Aside0.mk H
             clear H
             have hnb187 := NB505_394.out
             have hnc187 := NB394_505.out
             have hnb188 := NB505_395.out
             have hnc188 := NB395_505.out
             have hnb189 := NB505_424.out
             have hnc189 := NB424_505.out
             have hnb190 := NB505_437.out
             have hnc190 := NB437_505.out
             have hnb191 := NB505_453.out
             have hnc191 := NB453_505.out
             obtain ⟨hcz192_0, hcz192_1, hcz192_2, hcz192_3, hcz192_4, hcz192_5, hfz192_0, hfz192_1, hfz192_2, hfz192_3, hfz192_4, hfz192_5⟩ := kZc6 BK505
             have hnb193 := NB424_394.out
             have hnc193 := NB394_424.out
             have hnb194 := NB424_395.out
             have hnc194 := NB395_424.out
             have hnb195 := NB424_437.out
             have hnc195 := NB437_424.out
             have hnb196 := NB424_453.out
             have hnc196 := NB453_424.out
             obtain ⟨hcz197_0, hcz197_1, hcz197_2, hcz197_3, hcz197_4, hcz197_5, hfz197_0, hfz197_1, hfz197_2, hfz197_3, hfz197_4, hfz197_5⟩ := kZc6 BK424
             go_wp2_with (first | ((with_reducible refine gZc 10 (h := ?_)); refine gL 94 Try.func10 #[.agg #[.slice Ao164 t492.length co164, .int .i64 t495, .slice Ao167 t496.length co167, .int .i64 t499, .int .i64 t500, .slice Ao171 t501.length co171], .agg #[.slice Ao32 t411.length co32, .int .i64 t414, .slice Ao35 t415.length co35, .int .i64 t418, .int .i64 t419, .slice Ao39 t420.length co39]] ?_; (with_reducible refine (laws_eqShop.calls kj93 _ _ t492 t495 _ _ t496 t499 t500 _ _ t501 _ _ t411 t414 _ _ t415 t418 t419 _ _ t420 false _ ?side1 ?side2 ?side3 ?side4 ?side5 ?side6 ?side7 ?side8 ?side9 ?side10 ?side11 ?side12 A173.out).mono ?_); (case side1 => exact rdZ HO494); (case side2 => exact (rd1 HO494)); (case side3 => exact rdZ HO498); (case side4 => exact (rd1 HO498)); (case side5 => exact rdZ HO503); (case side6 => exact (rd1 HO503)); (case side7 => exact rdZ HO_425000); (case side8 => exact (rd1 HO_425000)); (case side9 => exact rdZ HO_425002); (case side10 => exact (rd1 HO_425002)); (case side11 => exact rdZ HO_425005); (case side12 => exact (rd1 HO_425005)); rintro e w198 ⟨rfl, hb⟩; refine ⟨_, rfl, ?_⟩; replace HO_425000 := Aside0.mk (Kd.R_below (rZz HO_425000) hb); replace HO_425002 := Aside0.mk (Kd.R_below (rZz HO_425002) hb); replace HO_425005 := Aside0.mk (Kd.R_below (rZz HO_425005) hb); replace HO_438000 := Aside0.mk (Kd.R_below (rZz HO_438000) hb); replace HO_438002 := Aside0.mk (Kd.R_below (rZz HO_438002) hb); replace HO_438005 := Aside0.mk (Kd.R_below (rZz HO_438005) hb); replace HO_454000 := Aside0.mk (Kd.R_below (rZz HO_454000) hb); replace HO_454002 := Aside0.mk (Kd.R_below (rZz HO_454002) hb); replace HO_454005 := Aside0.mk (Kd.R_below (rZz HO_454005) hb); replace HO480 := Aside0.mk (Kd.R_below (rZz HO480) hb); replace HO484 := Aside0.mk (Kd.R_below (rZz HO484) hb); replace HO489 := Aside0.mk (Kd.R_below (rZz HO489) hb); replace HO494 := Aside0.mk (Kd.R_below (rZz HO494) hb); replace HO498 := Aside0.mk (Kd.R_below (rZz HO498) hb); replace HO503 := Aside0.mk (Kd.R_below (rZz HO503) hb); replace BK394 := Aside0.mk (blk_below (g := gb394) (o := .cells #[.slice A0_0 l0_0.length c0_0, .int .i64 a0_1, .slice A0_2 l0_2.length c0_2, .int .i64 a0_3, .int .i64 a0_4, .slice A0_5 l0_5.length c0_5] 28 (0, 0)) (kZq BK394) hb); replace BK395 := Aside0.mk (blk_below (g := gb395) (o := .cells #[.int .i64 a1_0, .int .i64 a1_1] 30 (0, 0)) (kZq BK395) hb); replace BK424 := Aside0.mk (blk_below (g := gb424) (o := .cells #[.slice Ao32 t411.length co32, .int .i64 t414, .slice Ao35 t415.length co35, .int .i64 t418, .int .i64 t419, .slice Ao39 t420.length co39] 37 (0, 0)) (kZq BK424) hb); replace BK437 := Aside0.mk (blk_below (g := gb437) (o := .cells #[.slice Ao45 t469.length co45, .int .i64 t428, .slice Ao50 t470.length co50, .int .i64 t432, .int .i64 t433, .slice Ao51 t471.length co51] 37 (0, 0)) (kZq BK437) hb); replace BK453 := Aside0.mk (blk_below (g := gb453) (o := .cells #[.slice Ao58 t440.length co58, .int .i64 t443, .slice Ao61 t444.length co61, .int .i64 t447, .int .i64 t448, .slice Ao65 t449.length co65] 37 (0, 0)) (kZq BK453) hb); replace BK505 := Aside0.mk (blk_below (g := gb505) (o := .cells #[.slice Ao164 t492.length co164, .int .i64 t495, .slice Ao167 t496.length co167, .int .i64 t499, .int .i64 t500, .slice Ao171 t501.length co171] 37 (0, 0)) (kZq BK505) hb); replace HB := bbB hb; (try clear hb)))
             go_meet
             case rel => exact ⟨_, (true), RF, H', ⟨by have := HJ16.out; have := HJ93.out; first | omega | exact Nat.le_refl _⟩, ⟨by (try simp only [hl438000_93]); (try simp only [hl438002_93]); (try simp only [hl438005_93]); (with_reducible repeat (first | apply Kd.R_alloc | apply Kd.R_drewN | apply Kd.R_drew)); exact Kd.R_mono HO_425000.out (fun _ hk => ⟨hk.2.2.1, ⟨hk.2.2.2, hk.2.1⟩⟩)⟩, ⟨by (try simp only [hl438000_93]); (try simp only [hl438002_93]); (try simp only [hl438005_93]); (with_reducible repeat (first | apply Kd.R_alloc | apply Kd.R_drewN | apply Kd.R_drew)); exact Kd.R_mono HO_425002.out (fun _ hk => ⟨hk.2.2.1, ⟨hk.2.2.2, hk.2.1⟩⟩)⟩, ⟨by (try simp only [hl438000_93]); (try simp only [hl438002_93]); (try simp only [hl438005_93]); (with_reducible repeat (first | apply Kd.R_alloc | apply Kd.R_drewN | apply Kd.R_drew)); exact Kd.R_mono HO_425005.out (fun _ hk => ⟨hk.2.2.1, ⟨hk.2.2.2, hk.2.1⟩⟩)⟩, ⟨by (try simp only [hl438000_93]); (try simp only [hl438002_93]); (try simp only [hl438005_93]); (with_reducible repeat (first | apply Kd.R_alloc | apply Kd.R_drewN | apply Kd.R_drew)); exact Kd.R_mono HO_438000.out (fun _ hk => ⟨hk.2.2.1, ⟨hk.2.2.2, hk.2.1⟩⟩)⟩, ⟨by (try simp only [hl438000_93]); (try simp only [hl438002_93]); (try simp only [hl438005_93]); (with_reducible repeat (first | apply Kd.R_alloc | apply Kd.R_drewN | apply Kd.R_drew)); exact Kd.R_mono HO_438002.out (fun _ hk => ⟨hk.2.2.1, ⟨hk.2.2.2, hk.2.1⟩⟩)⟩, ⟨by (try simp only [hl438000_93]); (try simp only [hl438002_93]); (try simp only [hl438005_93]); (with_reducible repeat (first | apply Kd.R_alloc | apply Kd.R_drewN | apply Kd.R_drew)); exact Kd.R_mono HO_438005.out (fun _ hk => ⟨hk.2.2.1, ⟨hk.2.2.2, hk.2.1⟩⟩)⟩, ⟨by (try simp only [hl438000_93]); (try simp only [hl438002_93]); (try simp only [hl438005_93]); (with_reducible repeat (first | apply Kd.R_alloc | apply Kd.R_drewN | apply Kd.R_drew)); exact Kd.R_mono HO_454000.out (fun _ hk => ⟨hk.2.2.1, ⟨hk.2.2.2, hk.2.1⟩⟩)⟩, ⟨by (try simp only [hl438000_93]); (try simp only [hl438002_93]); (try simp only [hl438005_93]); (with_reducible repeat (first | apply Kd.R_alloc | apply Kd.R_drewN | apply Kd.R_drew)); exact Kd.R_mono HO_454002.out (fun _ hk => ⟨hk.2.2.1, ⟨hk.2.2.2, hk.2.1⟩⟩)⟩, ⟨by (try simp only [hl438000_93]); (try simp only [hl438002_93]); (try simp only [hl438005_93]); (with_reducible repeat (first | apply Kd.R_alloc | apply Kd.R_drewN | apply Kd.R_drew)); exact Kd.R_mono HO_454005.out (fun _ hk => ⟨hk.2.2.1, ⟨hk.2.2.2, hk.2.1⟩⟩)⟩, ⟨by (try simp only [hl438000_93]); (try simp only [hl438002_93]); (try simp only [hl438005_93]); (with_reducible repeat (first | apply Kd.R_alloc | apply Kd.R_drewN | apply Kd.R_drew)); exact Kd.R_mono HO494.out (fun _ hk => ⟨hk.2.1, ⟨hk.2.2.1, hk.2.2.2⟩⟩)⟩, ⟨by (try simp only [hl438000_93]); (try simp only [hl438002_93]); (try simp only [hl438005_93]); (with_reducible repeat (first | apply Kd.R_alloc | apply Kd.R_drewN | apply Kd.R_drew)); exact Kd.R_mono HO498.out (fun _ hk => ⟨hk.2.1, ⟨hk.2.2.1, hk.2.2.2⟩⟩)⟩, ⟨by (try simp only [hl438000_93]); (try simp only [hl438002_93]); (try simp only [hl438005_93]); (with_reducible repeat (first | apply Kd.R_alloc | apply Kd.R_drewN | apply Kd.R_drew)); exact Kd.R_mono HO503.out (fun _ hk => ⟨hk.2.1, ⟨hk.2.2.1, hk.2.2.2⟩⟩)⟩, ⟨by (try simp only [hl438000_93]); (try simp only [hl438002_93]); (try simp only [hl438005_93]); (with_reducible repeat (first | refine blk_drewN ?_ _ | refine blk_drew ?_ | refine blk_alloc ?_ _)); exact BK394.out⟩, ⟨by (try simp only [hl438000_93]); (try simp only [hl438002_93]); (try simp only [hl438005_93]); (with_reducible repeat (first | refine blk_drewN ?_ _ | refine blk_drew ?_ | refine blk_alloc ?_ _)); exact BK395.out⟩, ⟨by (try simp only [hl438000_93]); (try simp only [hl438002_93]); (try simp only [hl438005_93]); (with_reducible repeat (first | refine blk_drewN ?_ _ | refine blk_drew ?_ | refine blk_alloc ?_ _)); exact BK424.out⟩, ⟨by (try simp only [hl438000_93]); (try simp only [hl438002_93]); (try simp only [hl438005_93]); (with_reducible repeat (first | refine blk_drewN ?_ _ | refine blk_drew ?_ | refine blk_alloc ?_ _)); exact BK437.out⟩, ⟨by (try simp only [hl438000_93]); (try simp only [hl438002_93]); (try simp only [hl438005_93]); (with_reducible repeat (first | refine blk_drewN ?_ _ | refine blk_drew ?_ | refine blk_alloc ?_ _)); exact BK453.out⟩, ⟨by (try simp only [hl438000_93]); (try simp only [hl438002_93]); (try simp only [hl438005_93]); (with_reducible repeat (first | refine blk_drewN ?_ _ | refine blk_drew ?_ | refine blk_alloc ?_ _)); exact BK505.out⟩, ⟨BB⟩⟩
           case rest =>
            clear HC146
            try clear c1
            try clear p2
            try clear c7
            try clear c8
            try clear c9
            try clear c10
            try clear c17
            try clear c18
            try clear c19
            try clear c174
            try clear c175
            try clear c176
            try clear c177
            try clear c178
            try clear c179
            try clear c181
            try clear c182
            try clear c183
            try clear c184
            try clear c187
            try clear c188
            try clear c189
            try clear c190
            try clear c191
            try clear c193
            try clear c194
            try clear c195
            try clear c196
            try clear hcz180_0
            try clear hcz180_1
            try clear hcz180_2
            try clear hcz180_3
            try clear hcz180_4
            try clear hcz180_5
            try clear hcz185_0
            try clear hcz185_1
            try clear hcz185_2
            try clear hcz185_3
            try clear hcz185_4
            try clear hcz185_5
            try clear hcz192_0
            try clear hcz192_1
            try clear hcz192_2
            try clear hcz192_3
            try clear hcz192_4
            try clear hcz192_5
            try clear hcz197_0
            try clear hcz197_1
            try clear hcz197_2
            try clear hcz197_3
            try clear hcz197_4
            try clear hcz197_5
            try clear hfz180_0
            try clear hfz180_1
            try clear hfz180_2
            try clear hfz180_3
            try clear hfz180_4
            try clear hfz180_5
            try clear hfz185_0
            try clear hfz185_1
            try clear hfz185_2
            try clear hfz185_3
            try clear hfz185_4
            try clear hfz185_5
            try clear hfz192_0
            try clear hfz192_1
            try clear hfz192_2
            try clear hfz192_3
            try clear hfz192_4
            try clear hfz192_5
            try clear hfz197_0
            try clear hfz197_1
            try clear hfz197_2
            try clear hfz197_3
            try clear hfz197_4
            try clear hfz197_5
            obtain ⟨kq, x100_145, rfl, HA, HJ145, HO_425000, HO_425002, HO_425005, HO_438000, HO_438002, HO_438005, HO_454000, HO_454002, HO_454005, HO_506000, HO_506002, HO_506005, BK394, BK395, BK424, BK437, BK453, BK505, HB⟩ := hcut
            have hl454000_145 := (Kd.R_reads' HO_454000.out).1
            rw [hl454000_145] at HO_454000
            (try simp only [hl454000_145])
            (try simp only [hl454000_145] at BK394)
            (try simp only [hl454000_145] at BK395)
            (try simp only [hl454000_145] at BK424)
            (try simp only [hl454000_145] at BK437)
            (try simp only [hl454000_145] at BK453)
            (try simp only [hl454000_145] at BK505)
            (try simp only [hl454000_145] at HO_425000)
            (try simp only [hl454000_145] at HO_425002)
            (try simp only [hl454000_145] at HO_425005)
            (try simp only [hl454000_145] at HO_438000)
            (try simp only [hl454000_145] at HO_438002)
            (try simp only [hl454000_145] at HO_438005)
            (try simp only [hl454000_145] at HO_454002)
            (try simp only [hl454000_145] at HO_454005)
            (try simp only [hl454000_145] at HO_506000)
            (try simp only [hl454000_145] at HO_506002)
            (try simp only [hl454000_145] at HO_506005)
            have hl454002_145 := (Kd.R_reads' HO_454002.out).1
            rw [hl454002_145] at HO_454002
            (try simp only [hl454002_145])
            (try simp only [hl454002_145] at BK394)
            (try simp only [hl454002_145] at BK395)
            (try simp only [hl454002_145] at BK424)
            (try simp only [hl454002_145] at BK437)
            (try simp only [hl454002_145] at BK453)
            (try simp only [hl454002_145] at BK505)
            (try simp only [hl454002_145] at HO_425000)
            (try simp only [hl454002_145] at HO_425002)
            (try simp only [hl454002_145] at HO_425005)
            (try simp only [hl454002_145] at HO_438000)
            (try simp only [hl454002_145] at HO_438002)
            (try simp only [hl454002_145] at HO_438005)
            (try simp only [hl454002_145] at HO_454000)
            (try simp only [hl454002_145] at HO_454005)
            (try simp only [hl454002_145] at HO_506000)
            (try simp only [hl454002_145] at HO_506002)
            (try simp only [hl454002_145] at HO_506005)
            have hl454005_145 := (Kd.R_reads' HO_454005.out).1
            rw [hl454005_145] at HO_454005
            (try simp only [hl454005_145])
            (try simp only [hl454005_145] at BK394)
            (try simp only [hl454005_145] at BK395)
            (try simp only [hl454005_145] at BK424)
            (try simp only [hl454005_145] at BK437)
            (try simp only [hl454005_145] at BK453)
            (try simp only [hl454005_145] at BK505)
            (try simp only [hl454005_145] at HO_425000)
            (try simp only [hl454005_145] at HO_425002)
            (try simp only [hl454005_145] at HO_425005)
            (try simp only [hl454005_145] at HO_438000)
            (try simp only [hl454005_145] at HO_438002)
            (try simp only [hl454005_145] at HO_438005)
            (try simp only [hl454005_145] at HO_454000)
            (try simp only [hl454005_145] at HO_454002)
            (try simp only [hl454005_145] at HO_506000)
            (try simp only [hl454005_145] at HO_506002)
            (try simp only [hl454005_145] at HO_506005)
            cases kq with
            | zero => exact absurd HA.out (by simp [laws_FnExactShopFault.j2])
            | succ kj145 =>
             have H := HA.out
             clear HA
             simp only [laws_FnExactShopFault.j2] at H
             by_cases c199 : x100_145 = true
             ·subst c199
              rw [if_pos rfl] at H
              obtain rfl := Option.some.inj H
              go_wp2
              go_ret
              exact ⟨EV, BB⟩
             ·replace c199 := Bool.eq_false_iff.mpr c199
              subst c199
              rw [if_neg nft] at H
              obtain ⟨t507, A200, H⟩ := bsI H
              by_cases c201 : t507 < 0
              ·rw [if_pos c201] at H
               have c201b0 := decide_eq_true c201
               clear c201
               obtain rfl := Option.some.inj H
               have hnb202 := NB453_394.out
               have hnc202 := NB394_453.out
               have hnb203 := NB453_395.out
               have hnc203 := NB395_453.out
               have hnb204 := NB453_424.out
               have hnc204 := NB424_453.out
               have hnb205 := NB453_437.out
               have hnc205 := NB437_453.out
               have hnb206 := NB453_505.out
               have hnc206 := NB505_453.out
               obtain ⟨hcz207_0, hcz207_1, hcz207_2, hcz207_3, hcz207_4, hcz207_5, hfz207_0, hfz207_1, hfz207_2, hfz207_3, hfz207_4, hfz207_5⟩ := kZc6 BK453
               go_wp2_with (first | ((with_reducible refine gZc 12 (h := ?_)); refine gL 103 Try.func12 #[.agg #[.slice Ao58 t474.length co58, .int .i64 t443, .slice Ao61 t475.length co61, .int .i64 t447, .int .i64 t448, .slice Ao65 t476.length co65], .int .i64 1] ?_; (with_reducible refine (laws_heldShop.calls kj145 _ _ t474 t443 _ _ t475 t447 t448 _ _ t476 1 t507 _ ?side1 ?side2 ?side3 ?side4 ?side5 ?side6 A200.out).mono ?_); (case side1 => exact rdC HO_454000); (case side2 => exact (rd1 HO_454000)); (case side3 => exact rdC HO_454002); (case side4 => exact (rd1 HO_454002)); (case side5 => exact rdC HO_454005); (case side6 => exact (rd1 HO_454005)); rintro e w208 ⟨rfl, hb⟩; refine ⟨_, rfl, ?_⟩; replace HO_425000 := rbB HO_425000 hb; replace HO_425002 := rbB HO_425002 hb; replace HO_425005 := rbB HO_425005 hb; replace HO_438000 := rbB HO_438000 hb; replace HO_438002 := rbB HO_438002 hb; replace HO_438005 := rbB HO_438005 hb; replace HO_454000 := rbB HO_454000 hb; replace HO_454002 := rbB HO_454002 hb; replace HO_454005 := rbB HO_454005 hb; replace HO_506000 := rbB HO_506000 hb; replace HO_506002 := rbB HO_506002 hb; replace HO_506005 := rbB HO_506005 hb; replace BK394 := kbB BK394 hb; replace BK395 := kbB BK395 hb; replace BK424 := kbB BK424 hb; replace BK437 := kbB BK437 hb; replace BK453 := kbB BK453 hb; replace BK505 := kbB BK505 hb; replace HB := bbB hb; (try clear hb)))
               go_ret
               exact ⟨EV, BB⟩
              ·rw [if_neg c201] at H
               have c201b0 := decide_eq_false c201
               clear c201
               by_cases c209 : t507 = t473
               ·rw [if_pos c209] at H
                have c209b0 := beqT c209
                have c209b1 := bneF c209
                clear c209
                obtain rfl := Option.some.inj H
                have hnb210 := NB453_394.out
                have hnc210 := NB394_453.out
                have hnb211 := NB453_395.out
                have hnc211 := NB395_453.out
                have hnb212 := NB453_424.out
                have hnc212 := NB424_453.out
                have hnb213 := NB453_437.out
                have hnc213 := NB437_453.out
                have hnb214 := NB453_505.out
                have hnc214 := NB505_453.out
                obtain ⟨hcz215_0, hcz215_1, hcz215_2, hcz215_3, hcz215_4, hcz215_5, hfz215_0, hfz215_1, hfz215_2, hfz215_3, hfz215_4, hfz215_5⟩ := kZc6 BK453
                go_wp2_with (first | ((with_reducible refine gZc 12 (h := ?_)); refine gL 103 Try.func12 #[.agg #[.slice Ao58 t474.length co58, .int .i64 t443, .slice Ao61 t475.length co61, .int .i64 t447, .int .i64 t448, .slice Ao65 t476.length co65], .int .i64 1] ?_; (with_reducible refine (laws_heldShop.calls kj145 _ _ t474 t443 _ _ t475 t447 t448 _ _ t476 1 t507 _ ?side1 ?side2 ?side3 ?side4 ?side5 ?side6 A200.out).mono ?_); (case side1 => exact rdC HO_454000); (case side2 => exact (rd1 HO_454000)); (case side3 => exact rdC HO_454002); (case side4 => exact (rd1 HO_454002)); (case side5 => exact rdC HO_454005); (case side6 => exact (rd1 HO_454005)); rintro e w216 ⟨rfl, hb⟩; refine ⟨_, rfl, ?_⟩; replace HO_425000 := rbB HO_425000 hb; replace HO_425002 := rbB HO_425002 hb; replace HO_425005 := rbB HO_425005 hb; replace HO_438000 := rbB HO_438000 hb; replace HO_438002 := rbB HO_438002 hb; replace HO_438005 := rbB HO_438005 hb; replace HO_454000 := rbB HO_454000 hb; replace HO_454002 := rbB HO_454002 hb; replace HO_454005 := rbB HO_454005 hb; replace HO_506000 := rbB HO_506000 hb; replace HO_506002 := rbB HO_506002 hb; replace HO_506005 := rbB HO_506005 hb; replace BK394 := kbB BK394 hb; replace BK395 := kbB BK395 hb; replace BK424 := kbB BK424 hb; replace BK437 := kbB BK437 hb; replace BK453 := kbB BK453 hb; replace BK505 := kbB BK505 hb; replace HB := bbB hb; (try clear hb)))
                go_ret
                exact ⟨EV, BB⟩
               ·rw [if_neg c209] at H
                have c209b0 := beqF c209
                have c209b1 := bneT c209
                obtain rfl := Option.some.inj H
                have hnb217 := NB453_394.out
                have hnc217 := NB394_453.out
                have hnb218 := NB453_395.out
                have hnc218 := NB395_453.out
                have hnb219 := NB453_424.out
                have hnc219 := NB424_453.out
                have hnb220 := NB453_437.out
                have hnc220 := NB437_453.out
                have hnb221 := NB453_505.out
                have hnc221 := NB505_453.out
                obtain ⟨hcz222_0, hcz222_1, hcz222_2, hcz222_3, hcz222_4, hcz222_5, hfz222_0, hfz222_1, hfz222_2, hfz222_3, hfz222_4, hfz222_5⟩ := kZc6 BK453
                go_wp2_with (first | ((with_reducible refine gZc 12 (h := ?_)); refine gL 103 Try.func12 #[.agg #[.slice Ao58 t474.length co58, .int .i64 t443, .slice Ao61 t475.length co61, .int .i64 t447, .int .i64 t448, .slice Ao65 t476.length co65], .int .i64 1] ?_; (with_reducible refine (laws_heldShop.calls kj145 _ _ t474 t443 _ _ t475 t447 t448 _ _ t476 1 t507 _ ?side1 ?side2 ?side3 ?side4 ?side5 ?side6 A200.out).mono ?_); (case side1 => exact rdC HO_454000); (case side2 => exact (rd1 HO_454000)); (case side3 => exact rdC HO_454002); (case side4 => exact (rd1 HO_454002)); (case side5 => exact rdC HO_454005); (case side6 => exact (rd1 HO_454005)); rintro e w223 ⟨rfl, hb⟩; refine ⟨_, rfl, ?_⟩; replace HO_425000 := rbB HO_425000 hb; replace HO_425002 := rbB HO_425002 hb; replace HO_425005 := rbB HO_425005 hb; replace HO_438000 := rbB HO_438000 hb; replace HO_438002 := rbB HO_438002 hb; replace HO_438005 := rbB HO_438005 hb; replace HO_454000 := rbB HO_454000 hb; replace HO_454002 := rbB HO_454002 hb; replace HO_454005 := rbB HO_454005 hb; replace HO_506000 := rbB HO_506000 hb; replace HO_506002 := rbB HO_506002 hb; replace HO_506005 := rbB HO_506005 hb; replace BK394 := kbB BK394 hb; replace BK395 := kbB BK395 hb; replace BK424 := kbB BK424 hb; replace BK437 := kbB BK437 hb; replace BK453 := kbB BK453 hb; replace BK505 := kbB BK505 hb; replace HB := bbB hb; (try clear hb)))
                go_ret
                exact ⟨EV, BB⟩
          ·rw [if_neg c142] at H
           have c142b0 := beqF c142
           have c142b1 := bneT c142
           obtain rfl := Option.some.inj H
           have hnb224 := NB453_394.out
           have hnc224 := NB394_453.out
           have hnb225 := NB453_395.out
           have hnc225 := NB395_453.out
           have hnb226 := NB453_424.out
           have hnc226 := NB424_453.out
           have hnb227 := NB453_437.out
           have hnc227 := NB437_453.out
           obtain ⟨hcz228_0, hcz228_1, hcz228_2, hcz228_3, hcz228_4, hcz228_5, hfz228_0, hfz228_1, hfz228_2, hfz228_3, hfz228_4, hfz228_5⟩ := kZc6 BK453
           go_wp2_with (first | ((with_reducible refine gZc 11 (h := ?_)); refine gL 74 Try.func11 #[.agg #[.slice Ao58 t440.length co58, .int .i64 t443, .slice Ao61 t444.length co61, .int .i64 t447, .int .i64 t448, .slice Ao65 t449.length co65], .int .i64 1] ?_; (with_reducible refine (laws_markShop.calls kj93 (fun k_ => some k_ = (.slice Ao58 t440.length co58 : Value).ownBlock) (.slice Ao58 t440.length co58) t440 t443 (fun k_ => some k_ = (.slice Ao61 t444.length co61 : Value).ownBlock) (.slice Ao61 t444.length co61) t444 t447 t448 (fun k_ => some k_ = (.slice Ao65 t449.length co65 : Value).ownBlock) (.slice Ao65 t449.length co65) t449 1 t473 t474 t475 t476 w _ ?side1 ?side2 ?side3 ?side4 A131.out).mono ?_); (case side1 => repeat (first | (with_reducible first | exact HB.out | apply below_alloc | apply pw_below_drewN | apply below_drew1 | refine below_set ?_ GE394.out | refine below_set ?_ GE395.out | refine below_set ?_ GE424.out | refine below_set ?_ GE437.out | refine below_set ?_ GE453.out) | exact HB.out)); (case side2 => exact Kd.R_tight rfl HO_454000.out); (case side3 => exact Kd.R_tight rfl HO_454002.out); (case side4 => exact Kd.R_tight rfl HO_454005.out); rintro e w229 ⟨rfl, hy0, hy1, hy2, hb, hkp⟩; refine ⟨_, rfl, ?_⟩; replace HO_425000 := Aside0.mk (Kd.R_mono (ok' := fun k_ => some k_ ≠ (.slice Ao45 t469.length co45 : Value).ownBlock ∧ some k_ ≠ (.slice Ao58 t440.length co58 : Value).ownBlock) (Kd.R_keptB ((Kd.R_apart' (Kd.R_apart' HO_425000.out (Kd.R_typed HO_454002.out) (by decide)) (Kd.R_typed HO_454005.out) (by decide))) hkp (fun k_ hk_ hs_ => Or.elim hs_ hk_.1.1.2 (fun e_ => Or.elim e_ hk_.1.2 hk_.2))) (fun k_ hk_ => ⟨hk_.1.1.1.1, hk_.1.1.1.2⟩)); replace HO_425002 := Aside0.mk (Kd.R_mono (ok' := fun k_ => some k_ ≠ (.slice Ao50 t470.length co50 : Value).ownBlock ∧ some k_ ≠ (.slice Ao61 t444.length co61 : Value).ownBlock) (Kd.R_keptB ((Kd.R_apart' (Kd.R_apart' HO_425002.out (Kd.R_typed HO_454000.out) (by decide)) (Kd.R_typed HO_454005.out) (by decide))) hkp (fun k_ hk_ hs_ => Or.elim hs_ hk_.1.2 (fun e_ => Or.elim e_ hk_.1.1.2 hk_.2))) (fun k_ hk_ => ⟨hk_.1.1.1.1, hk_.1.1.1.2⟩)); replace HO_425005 := Aside0.mk (Kd.R_mono (ok' := fun k_ => some k_ ≠ (.slice Ao51 t471.length co51 : Value).ownBlock ∧ some k_ ≠ (.slice Ao65 t449.length co65 : Value).ownBlock) (Kd.R_keptB ((Kd.R_apart' (Kd.R_apart' HO_425005.out (Kd.R_typed HO_454000.out) (by decide)) (Kd.R_typed HO_454002.out) (by decide))) hkp (fun k_ hk_ hs_ => Or.elim hs_ hk_.1.2 (fun e_ => Or.elim e_ hk_.2 hk_.1.1.2))) (fun k_ hk_ => ⟨hk_.1.1.1.1, hk_.1.1.1.2⟩)); replace HO_438000 := Aside0.mk (Kd.R_mono (ok' := fun k_ => some k_ ≠ (.slice Ao32 t411.length co32 : Value).ownBlock ∧ some k_ ≠ (.slice Ao58 t440.length co58 : Value).ownBlock) (Kd.R_keptB ((Kd.R_apart' (Kd.R_apart' HO_438000.out (Kd.R_typed HO_454002.out) (by decide)) (Kd.R_typed HO_454005.out) (by decide))) hkp (fun k_ hk_ hs_ => Or.elim hs_ hk_.1.1.2 (fun e_ => Or.elim e_ hk_.1.2 hk_.2))) (fun k_ hk_ => ⟨hk_.1.1.1.1, hk_.1.1.1.2⟩)); replace HO_438002 := Aside0.mk (Kd.R_mono (ok' := fun k_ => some k_ ≠ (.slice Ao35 t415.length co35 : Value).ownBlock ∧ some k_ ≠ (.slice Ao61 t444.length co61 : Value).ownBlock) (Kd.R_keptB ((Kd.R_apart' (Kd.R_apart' HO_438002.out (Kd.R_typed HO_454000.out) (by decide)) (Kd.R_typed HO_454005.out) (by decide))) hkp (fun k_ hk_ hs_ => Or.elim hs_ hk_.1.2 (fun e_ => Or.elim e_ hk_.1.1.2 hk_.2))) (fun k_ hk_ => ⟨hk_.1.1.1.1, hk_.1.1.1.2⟩)); replace HO_438005 := Aside0.mk (Kd.R_mono (ok' := fun k_ => some k_ ≠ (.slice Ao39 t420.length co39 : Value).ownBlock ∧ some k_ ≠ (.slice Ao65 t449.length co65 : Value).ownBlock) (Kd.R_keptB ((Kd.R_apart' (Kd.R_apart' HO_438005.out (Kd.R_typed HO_454000.out) (by decide)) (Kd.R_typed HO_454002.out) (by decide))) hkp (fun k_ hk_ hs_ => Or.elim hs_ hk_.1.2 (fun e_ => Or.elim e_ hk_.2 hk_.1.1.2))) (fun k_ hk_ => ⟨hk_.1.1.1.1, hk_.1.1.1.2⟩)); replace BK394 := Aside0.mk (blk_kept (kZb BK394) hkp (fun hs_ => Or.elim hs_ (Kd.R_ne HO_454000.out BK394.out (by decide)) (fun e_ => Or.elim e_ (Kd.R_ne HO_454002.out BK394.out (by decide)) (Kd.R_ne HO_454005.out BK394.out (by decide))))); replace BK395 := Aside0.mk (blk_kept (kZb BK395) hkp (fun hs_ => Or.elim hs_ (Kd.R_ne HO_454000.out BK395.out (by decide)) (fun e_ => Or.elim e_ (Kd.R_ne HO_454002.out BK395.out (by decide)) (Kd.R_ne HO_454005.out BK395.out (by decide))))); replace BK424 := Aside0.mk (blk_kept (kZb BK424) hkp (fun hs_ => Or.elim hs_ (Kd.R_ne HO_454000.out BK424.out (by decide)) (fun e_ => Or.elim e_ (Kd.R_ne HO_454002.out BK424.out (by decide)) (Kd.R_ne HO_454005.out BK424.out (by decide))))); replace BK437 := Aside0.mk (blk_kept (kZb BK437) hkp (fun hs_ => Or.elim hs_ (Kd.R_ne HO_454000.out BK437.out (by decide)) (fun e_ => Or.elim e_ (Kd.R_ne HO_454002.out BK437.out (by decide)) (Kd.R_ne HO_454005.out BK437.out (by decide))))); replace BK453 := Aside0.mk (blk_kept (kZb BK453) hkp (fun hs_ => Or.elim hs_ (Kd.R_ne HO_454000.out BK453.out (by decide)) (fun e_ => Or.elim e_ (Kd.R_ne HO_454002.out BK453.out (by decide)) (Kd.R_ne HO_454005.out BK453.out (by decide))))); replace HO_454000 := Aside0.mk (Kd.R_reok rfl hy0 (fun k_ e_ => HO_454000.out.1 k_ e_)); replace HO_454002 := Aside0.mk (Kd.R_reok rfl hy1 (fun k_ e_ => HO_454002.out.1 k_ e_)); replace HO_454005 := Aside0.mk (Kd.R_reok rfl hy2 (fun k_ e_ => HO_454005.out.1 k_ e_)); replace HB := Aside0.mk (hb); (try clear hb); (try clear hkp); (try clear hy0); (try clear hy1); (try clear hy2); obtain ⟨hcz230_0, hcz230_1, hcz230_2, hcz230_3, hcz230_4, hcz230_5, hfz230_0, hfz230_1, hfz230_2, hfz230_3, hfz230_4, hfz230_5⟩ := kZc6 BK453) | ((with_reducible refine gate_callee (f := 12) rfl ?_); refine goesL_ (some 77) rfl rfl Try.func12 (by kernel_rfl) rfl #[.agg #[.slice Ao58 t474.length co58, .int .i64 t443, .slice Ao61 t475.length co61, .int .i64 t447, .int .i64 t448, .slice Ao65 t476.length co65], .int .i64 1] rfl (by (try simp only [List.map_toArray, List.map_cons, List.map_nil]); first | done | (rw [show t474.length = t440.length from (rd0 HO_454000), show t475.length = t444.length from (rd0 HO_454002), show t476.length = t449.length from (rd0 HO_454005)] <;> rfl) | rfl | (simp only [List.length_drop, List.length_take]; rfl)) ?_; (with_reducible refine (laws_heldShop.calls kj93 _ _ t474 t443 _ _ t475 t447 t448 _ _ t476 1 t477 _ ?side1 ?side2 ?side3 ?side4 ?side5 ?side6 A132.out).mono ?_); (case side1 => exact rdC HO_454000); (case side2 => rw [show t474.length = t440.length from (rd0 HO_454000)]; exact (rd1 HO_454000)); (case side3 => exact rdC HO_454002); (case side4 => rw [show t475.length = t444.length from (rd0 HO_454002)]; exact (rd1 HO_454002)); (case side5 => exact rdC HO_454005); (case side6 => rw [show t476.length = t449.length from (rd0 HO_454005)]; exact (rd1 HO_454005)); rintro e w231 ⟨rfl, hb⟩; refine ⟨_, rfl, ?_⟩; replace HO_425000 := rbB HO_425000 hb; replace HO_425002 := rbB HO_425002 hb; replace HO_425005 := rbB HO_425005 hb; replace HO_438000 := rbB HO_438000 hb; replace HO_438002 := rbB HO_438002 hb; replace HO_438005 := rbB HO_438005 hb; replace HO_454000 := rbB HO_454000 hb; replace HO_454002 := rbB HO_454002 hb; replace HO_454005 := rbB HO_454005 hb; replace BK394 := kbB BK394 hb; replace BK395 := kbB BK395 hb; replace BK424 := kbB BK424 hb; replace BK437 := kbB BK437 hb; replace BK453 := kbB BK453 hb; replace HB := bbB hb; (try clear hb)))
           go_ret
           exact ⟨EV, BB⟩
     ·replace c92 := Bool.eq_false_iff.mpr c92
      subst c92
      rw [if_neg nft] at H
      obtain rfl := Option.some.inj H
      try go_wp2
      replace HO_425000 := Aside0.mk (Kd.R_drew HO_425000.out)
      replace HO_425002 := Aside0.mk (Kd.R_drew HO_425002.out)
      replace HO_425005 := Aside0.mk (Kd.R_drew HO_425005.out)
      replace HO_438000 := Aside0.mk (Kd.R_drew HO_438000.out)
      replace HO_438002 := Aside0.mk (Kd.R_drew HO_438002.out)
      replace HO_438005 := Aside0.mk (Kd.R_drew HO_438005.out)
      replace HO_454000 := Aside0.mk (Kd.R_drew HO_454000.out)
      replace HO_454002 := Aside0.mk (Kd.R_drew HO_454002.out)
      replace HO_454005 := Aside0.mk (Kd.R_drew HO_454005.out)
      replace BK394 := Aside0.mk (blk_drew BK394.out)
      replace BK395 := Aside0.mk (blk_drew BK395.out)
      replace BK424 := Aside0.mk (blk_drew BK424.out)
      replace BK437 := Aside0.mk (blk_drew BK437.out)
      replace BK453 := Aside0.mk (blk_drew BK453.out)
      replace HB := Aside0.mk (below_drew1 HB.out)
      refine start_ (n := 5) (S := fun w' => w'.cell? ⟨gb437, 0, none⟩ = some (.slice Ao45 t425.length co45) ∧ w'.cell? ⟨gb437, 1, none⟩ = some (.int .i64 t428) ∧ w'.cell? ⟨gb437, 2, none⟩ = some (.slice Ao50 t429.length co50) ∧ w'.cell? ⟨gb437, 3, none⟩ = some (.int .i64 t432) ∧ w'.cell? ⟨gb437, 4, none⟩ = some (.int .i64 t433) ∧ w'.cell? ⟨gb437, 5, none⟩ = some (.slice Ao51 t434.length co51) ∧ w'.cell? ⟨gb394, 0, none⟩ = some (.slice A0_0 l0_0.length c0_0) ∧ w'.cell? ⟨gb394, 1, none⟩ = some (.int .i64 a0_1) ∧ w'.cell? ⟨gb394, 2, none⟩ = some (.slice A0_2 l0_2.length c0_2) ∧ w'.cell? ⟨gb394, 3, none⟩ = some (.int .i64 a0_3) ∧ w'.cell? ⟨gb394, 4, none⟩ = some (.int .i64 a0_4) ∧ w'.cell? ⟨gb394, 5, none⟩ = some (.slice A0_5 l0_5.length c0_5)) (ds := []) (Array.replicate 5 false) (by kernel_rfl) rfl rfl ⟨kZc BK437 0, kZc BK437 1, kZc BK437 2, kZc BK437 3, kZc BK437 4, kZc BK437 5, kZc BK394 0, kZc BK394 1, kZc BK394 2, kZc BK394 3, kZc BK394 4, kZc BK394 5⟩ (fun hHeld => ?_)
      generalize wc.drew = w232 at HO_425000 HO_425002 HO_425005 HO_438000 HO_438002 HO_438005 HO_454000 HO_454002 HO_454005 BK394 BK395 BK424 BK437 BK453 HB hHeld ⊢
      refine take_ (i := 0) (N := some 51) (v := ?_) (a' := ?_) #[true, false, false, false, false] rfl rfl (by kernel_rfl) (fun _ _ _ h => h) (Or.inl ⟨by rfl, ?_⟩) hHeld ?_ ?_
      rotate_left
      ·rintro w' ⟨s0, s1, s2, s3, s4, s5, s6, s7, s8, s9, s10, s11⟩
       go_simp
       with_reducible rfl
      rotate_left
      ·simp only [Act.put, List.setIfInBounds_toArray, List.set_cons_zero, List.set_cons_succ, i64_w, i32_w]
       rfl
      refine take_ (i := 1) (N := some 52) (v := ?_) (a' := ?_) #[true, true, false, false, false] rfl rfl (by kernel_rfl) (fun _ _ _ h => h) (Or.inl ⟨by rfl, ?_⟩) hHeld ?_ ?_
      rotate_left
      ·rintro w' ⟨s0, s1, s2, s3, s4, s5, s6, s7, s8, s9, s10, s11⟩
       go_simp
       with_reducible rfl
      rotate_left
      ·simp only [Act.put, List.setIfInBounds_toArray, List.set_cons_zero, List.set_cons_succ, i64_w, i32_w]
       rfl
      refine one_ (i := 2) (N := some 53) #[true, true, true, false, false] rfl rfl (by kernel_rfl) (by decide) (fun K hK => ?_)
      refine goes_ Try.func7 (by kernel_rfl) rfl #[.agg #[.slice A0_0 l0_0.length c0_0, .int .i64 a0_1, .slice A0_2 l0_2.length c0_2, .int .i64 a0_3, .int .i64 a0_4, .slice A0_5 l0_5.length c0_5]] (by rfl) rfl rfl MP ?_
      with_reducible refine (laws_toShop.calls kj16 _ _ l0_0 a0_1 _ _ l0_2 a0_3 a0_4 _ _ l0_5 t455 t458 t459 t462 t463 t464 _ ?side1 ?side2 ?side3 ?side4 ?side5 ?side6 A90.out).mono ?_
      (case side1 => exact cZr (Kd.C_below HR0_0.out HB.out))
      (case side2 => exact HC0_0.out)
      (case side3 => exact cZr (Kd.C_below HR0_2.out HB.out))
      (case side4 => exact HC0_2.out)
      (case side5 => exact cZr (Kd.C_below HR0_5.out HB.out))
      (case side6 => exact HC0_5.out)
      rintro e w233 ⟨v456, v460, v465, rfl, ho0, ho1, ho2, hb⟩
      refine ⟨_, rfl, ?_⟩
      have HO457 := Aside0.mk (Kd.R_lower (Kd.R_new' (Kd.R_new' (Kd.R_new' ho0 (Kd.R_lt (rZr HO_425000))) (Kd.R_lt (rZr HO_438000))) (Kd.R_lt (rZr HO_454000))) (below_size BB))
      replace HO_425000 := reB HO_425000 ho0 hb
      replace HO_438000 := reB HO_438000 ho0 hb
      replace HO_454000 := reB HO_454000 ho0 hb
      have HO461 := Aside0.mk (Kd.R_lower (Kd.R_new' (Kd.R_new' (Kd.R_new' ho1 (Kd.R_lt (rZr HO_425002))) (Kd.R_lt (rZr HO_438002))) (Kd.R_lt (rZr HO_454002))) (below_size BB))
      replace HO_425002 := reB HO_425002 ho1 hb
      replace HO_438002 := reB HO_438002 ho1 hb
      replace HO_454002 := reB HO_454002 ho1 hb
      have HO466 := Aside0.mk (Kd.R_lower (Kd.R_new' (Kd.R_new' (Kd.R_new' ho2 (Kd.R_lt (rZr HO_425005))) (Kd.R_lt (rZr HO_438005))) (Kd.R_lt (rZr HO_454005))) (below_size BB))
      replace HO_425005 := reB HO_425005 ho2 hb
      replace HO_438005 := reB HO_438005 ho2 hb
      replace HO_454005 := reB HO_454005 ho2 hb
      replace BK394 := kbB BK394 hb
      replace BK395 := kbB BK395 hb
      replace BK424 := kbB BK424 hb
      replace BK437 := kbB BK437 hb
      replace BK453 := kbB BK453 hb
      replace HB := bbB hb
      (try clear hb)
      (try clear ho0)
      (try clear ho1)
      (try clear ho2)
      obtain ⟨Ao234, co234, eo234⟩ := Kd.R_slice HO457.out
      (first | subst eo234 | (obtain ⟨f4_, f5_⟩ := slI eo234; subst f4_; subst f5_))
      obtain ⟨Ao235, co235, eo235⟩ := Kd.R_slice HO461.out
      (first | subst eo235 | (obtain ⟨f4_, f5_⟩ := slI eo235; subst f4_; subst f5_))
      obtain ⟨Ao236, co236, eo236⟩ := Kd.R_slice HO466.out
      (first | subst eo236 | (obtain ⟨f4_, f5_⟩ := slI eo236; subst f4_; subst f5_))
      refine hK.out _ _ ⟨kZc BK437 0, kZc BK437 1, kZc BK437 2, kZc BK437 3, kZc BK437 4, kZc BK437 5, kZc BK394 0, kZc BK394 1, kZc BK394 2, kZc BK394 3, kZc BK394 4, kZc BK394 5⟩ (fun hHeld => ?_)
      clear hK K
      refine nZm (h := ?_)
      refine one_ (i := 3) (N := some 54) #[true, true, true, true, false] rfl rfl (by kernel_rfl) (by decide) (fun K hK => ?_)
      refine goes_ Try.func10 (by kernel_rfl) rfl #[.agg #[.slice Ao45 t425.length co45, .int .i64 t428, .slice Ao50 t429.length co50, .int .i64 t432, .int .i64 t433, .slice Ao51 t434.length co51], .agg #[.slice Ao234 t455.length co234, .int .i64 t458, .slice Ao235 t459.length co235, .int .i64 t462, .int .i64 t463, .slice Ao236 t464.length co236]] (by rfl) rfl rfl MP ?_
      with_reducible refine (laws_eqShop.calls kj16 _ _ t425 t428 _ _ t429 t432 t433 _ _ t434 _ _ t455 t458 _ _ t459 t462 t463 _ _ t464 false _ ?side1 ?side2 ?side3 ?side4 ?side5 ?side6 ?side7 ?side8 ?side9 ?side10 ?side11 ?side12 A91.out).mono ?_
      (case side1 => exact rdC HO_438000)
      (case side2 => exact (rd1 HO_438000))
      (case side3 => exact rdC HO_438002)
      (case side4 => exact (rd1 HO_438002))
      (case side5 => exact rdC HO_438005)
      (case side6 => exact (rd1 HO_438005))
      (case side7 => exact rdC HO457)
      (case side8 => exact (rd1 HO457))
      (case side9 => exact rdC HO461)
      (case side10 => exact (rd1 HO461))
      (case side11 => exact rdC HO466)
      (case side12 => exact (rd1 HO466))
      rintro e w237 ⟨rfl, hb⟩
      refine ⟨_, rfl, ?_⟩
      replace HO_425000 := rbB HO_425000 hb
      replace HO_425002 := rbB HO_425002 hb
      replace HO_425005 := rbB HO_425005 hb
      replace HO_438000 := rbB HO_438000 hb
      replace HO_438002 := rbB HO_438002 hb
      replace HO_438005 := rbB HO_438005 hb
      replace HO_454000 := rbB HO_454000 hb
      replace HO_454002 := rbB HO_454002 hb
      replace HO_454005 := rbB HO_454005 hb
      replace HO457 := rbB HO457 hb
      replace HO461 := rbB HO461 hb
      replace HO466 := rbB HO466 hb
      replace BK394 := kbB BK394 hb
      replace BK395 := kbB BK395 hb
      replace BK424 := kbB BK424 hb
      replace BK437 := kbB BK437 hb
      replace BK453 := kbB BK453 hb
      replace HB := bbB hb
      (try clear hb)
      refine hK.out _ _ ⟨kZc BK437 0, kZc BK437 1, kZc BK437 2, kZc BK437 3, kZc BK437 4, kZc BK437 5, kZc BK394 0, kZc BK394 1, kZc BK394 2, kZc BK394 3, kZc BK394 4, kZc BK394 5⟩ (fun hHeld => ?_)
      clear hK K
      refine nZm (h := ?_)
      refine pure_ (i := 4) (N := some 55) (v := ?_) (a' := ?_) #[true, true, true, true, true] rfl rfl (by kernel_rfl) (fun _ _ _ h => h) (Or.inl ⟨by rfl, ?_⟩) ?_ ?_
      rotate_left
      ·intro w'
       go_simp
       with_reducible rfl
      rotate_left
      ·simp only [Act.put, List.setIfInBounds_toArray, List.set_cons_zero, List.set_cons_succ, i64_w, i32_w]
       rfl
      refine done_ (by kernel_rfl) ?_
      try go_wp2
      go_ret
      exact ⟨EV, BB⟩
end Go.Proofs.Ytpbhoembdoofiaa.B
