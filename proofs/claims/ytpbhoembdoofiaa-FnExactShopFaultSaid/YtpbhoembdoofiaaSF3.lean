import Derived.IntWalk
import Derived.Test.YtpbhoembdoofiaaSF2
namespace Go.Proofs.Ytpbhoembdoofiaa.B
open Go.RowKit Go.Proofs.YtpbhoembdoofiaaW.PrintWords Go.Proofs.YtpbhoembdoofiaaW.PrintLast Go.Proofs.YtpbhoembdoofiaaW.PrintMore Go.Proofs.YtpbhoembdoofiaaW.Zc
set_option linter.unusedVariables false
set_option linter.unusedSimpArgs false
def impl_ShopOk.f (l0_0 : List (S100)) (a0_1 : Int) (l0_2 : List Int) (a0_3 : Int) (a0_4 : Int) (l0_5 : List (S61)) : Option (Bool) := (impl_WorkOk.f l0_0 a0_1 l0_2).bind fun t261 => (if t261 = true then ((impl_LogOk.f l0_5).bind fun t262 => (if t262 = true then ((impl_isWarmth.f a0_3).bind fun t263 => (if t263 = true then ((impl_within.f a0_4 0 100000).bind fun t264 => (if t264 = true then (if (l0_5.length : Int) = 0 then (some true) else (if 0 ≤ (wrap64 ((l0_5.length : Int) - 1)) then (if (wrap64 ((l0_5.length : Int) - 1)) < (l0_5.length : Int) then (some (decide (((rd_T61 l0_5 (wrap64 ((l0_5.length : Int) - 1))).f2) ≤ a0_4))) else (none)) else (none))) else (some false))) else (some false))) else (some false))) else (some false))
set_option maxHeartbeats 8000000 in
set_option maxRecDepth 100000 in
theorem impl_ShopOk.calls (A0_0 : Option Addr) (c0_0 : Nat) (l0_0 : List (S100)) (a0_1 : Int) (A0_2 : Option Addr) (c0_2 : Nat) (l0_2 : List Int) (a0_3 : Int) (a0_4 : Int) (A0_5 : Option Addr) (c0_5 : Nat) (l0_5 : List (S61)) (r : Bool) (w : World) (hr0_0 : Kd.C k100 w A0_0 l0_0.length l0_0) (hc0_0 : l0_0.length ≤ c0_0) (hr0_2 : Kd.C (Kd.int .i64) w A0_2 l0_2.length l0_2) (hc0_2 : l0_2.length ≤ c0_2) (hr0_5 : Kd.C k61 w A0_5 l0_5.length l0_5) (hc0_5 : l0_5.length ≤ c0_5) (h : impl_ShopOk.f l0_0 a0_1 l0_2 a0_3 a0_4 l0_5 = some r) :
    Calls Try.prog 19 #[.agg #[.slice A0_0 l0_0.length c0_0, .int .i64 a0_1, .slice A0_2 l0_2.length c0_2, .int .i64 a0_3, .int .i64 a0_4, .slice A0_5 l0_5.length c0_5]] w fun e w' => e = .returned (.bool r) ∧ Below w.heap.size w w' := by
 have hu37 := Try.underlying37
 have hu34 := Try.underlying34
 have HR0_0 := Aside0.mk hr0_0
 have HC0_0 := Aside0.mk hc0_0
 clear hr0_0 hc0_0
 have HR0_2 := Aside0.mk hr0_2
 have HC0_2 := Aside0.mk hc0_2
 clear hr0_2 hc0_2
 have HR0_5 := Aside0.mk hr0_5
 have HC0_5 := Aside0.mk hc0_5
 clear hr0_5 hc0_5
 have HB := Aside0.mk (Below.refl w.heap.size w)
 have H : ((impl_WorkOk.f l0_0 a0_1 l0_2).bind fun t261 => (if t261 = true then ((impl_LogOk.f l0_5).bind fun t262 => (if t262 = true then ((impl_isWarmth.f a0_3).bind fun t263 => (if t263 = true then ((impl_within.f a0_4 0 100000).bind fun t264 => (if t264 = true then (if (l0_5.length : Int) = 0 then (some true) else (if 0 ≤ (wrap64 ((l0_5.length : Int) - 1)) then (if (wrap64 ((l0_5.length : Int) - 1)) < (l0_5.length : Int) then (some (decide (((rd_T61 l0_5 (wrap64 ((l0_5.length : Int) - 1))).f2) ≤ a0_4))) else (none)) else (none))) else (some false))) else (some false))) else (some false))) else (some false))) = some r := h
 clear h
 obtain ⟨t261, A2, H⟩ := bsI H
 by_cases c3 : t261 = true
 ·subst c3
  rw [if_pos rfl] at H
  obtain ⟨t262, A4, H⟩ := bsI H
  by_cases c5 : t262 = true
  ·subst c5
   rw [if_pos rfl] at H
   obtain ⟨t263, A6, H⟩ := bsI H
   by_cases c7 : t263 = true
   ·subst c7
    rw [if_pos rfl] at H
    obtain ⟨t264, A8, H⟩ := bsI H
    by_cases c9 : t264 = true
    ·subst c9
     rw [if_pos rfl] at H
     by_cases c10 : (l0_5.length : Int) = 0
     ·rw [if_pos c10] at H
      have c10b0 := beqT c10
      have c10b1 := bneF c10
      clear c10
      obtain rfl := Option.some.inj H
      go_enter Try.func19, Try.ntmps19
      go_wp2_with (first | ((with_reducible refine gate_dst (N := 1) rfl ?_); (try (refine gate_guard (by rfl) ?_; dsimp only)); refine box_event ?hg (N := 1) ?hd (cs := #[.slice A0_0 l0_0.length c0_0, .int .i64 a0_1, .slice A0_2 l0_2.length c0_2, .int .i64 a0_3, .int .i64 a0_4, .slice A0_5 l0_5.length c0_5]) (t := 37) ?hr ?_; (case hd => rfl); (case hg => rfl); (case hr => exact GR); intro gb260 hg w11 hbox hb; have BK260 := Aside0.mk (hbox); have GW260 := szB hg; have GE260 := szB hg; replace HB := bbB hb; clear hb hbox hg; obtain ⟨hcz12_0, hcz12_1, hcz12_2, hcz12_3, hcz12_4, hcz12_5, hfz12_0, hfz12_1, hfz12_2, hfz12_3, hfz12_4, hfz12_5⟩ := kZc6 BK260) | (go_at_call 41; (with_reducible refine (impl_WorkOk.calls _ _ l0_0 a0_1 _ _ l0_2 true _ ?side1 ?side2 ?side3 ?side4 A2.out).mono ?_); (case side1 => exact cZr (Kd.C_below HR0_0.out HB.out)); (case side2 => exact HC0_0.out); (case side3 => exact cZr (Kd.C_below HR0_2.out HB.out)); (case side4 => exact HC0_2.out); rintro e w13 ⟨rfl, hb⟩; replace BK260 := kbB BK260 hb; replace HB := bbB hb; (try clear hb); obtain ⟨hcz14_0, hcz14_1, hcz14_2, hcz14_3, hcz14_4, hcz14_5, hfz14_0, hfz14_1, hfz14_2, hfz14_3, hfz14_4, hfz14_5⟩ := kZc6 BK260) | (go_at_call 42; (with_reducible refine (impl_LogOk.calls _ _ l0_5 true _ ?side1 ?side2 A4.out).mono ?_); (case side1 => exact cZr (Kd.C_below HR0_5.out HB.out)); (case side2 => exact HC0_5.out); rintro e w15 ⟨rfl, hb⟩; replace BK260 := kbB BK260 hb; replace HB := bbB hb; (try clear hb); obtain ⟨hcz16_0, hcz16_1, hcz16_2, hcz16_3, hcz16_4, hcz16_5, hfz16_0, hfz16_1, hfz16_2, hfz16_3, hfz16_4, hfz16_5⟩ := kZc6 BK260) | (go_at_call 43; (with_reducible refine (impl_isWarmth.calls a0_3 true _ A6.out).mono ?_); rintro e w' ⟨rfl, ⟨nd, rfl⟩⟩; (try first | exact ⟨rfl, _, World.drewN_drewN _ _ _⟩ | exact ⟨rfl, _, Eq.trans (World.drewN_drewN _ _ _) (congrArg (World.drewN _) (Nat.add_assoc _ _ _))⟩)) | (go_at_call 44; (with_reducible refine (impl_within.calls a0_4 0 100000 true _ A8.out).mono ?_); rintro e w' ⟨rfl, ⟨nd, rfl⟩⟩; (try first | exact ⟨rfl, _, World.drewN_drewN _ _ _⟩ | exact ⟨rfl, _, Eq.trans (World.drewN_drewN _ _ _) (congrArg (World.drewN _) (Nat.add_assoc _ _ _))⟩)))
      repeat (go_quiet (first | ((with_reducible refine gate_dst (N := 1) rfl ?_); (try (refine gate_guard (by rfl) ?_; dsimp only)); refine box_event ?hg (N := 1) ?hd (cs := #[.slice A0_0 l0_0.length c0_0, .int .i64 a0_1, .slice A0_2 l0_2.length c0_2, .int .i64 a0_3, .int .i64 a0_4, .slice A0_5 l0_5.length c0_5]) (t := 37) ?hr ?_; (case hd => rfl); (case hg => rfl); (case hr => exact GR); intro gb260 hg w11 hbox hb; have n0_ := bbB hb; have n1_ := Aside0.mk (hbox); have n2_ := szB hg; have n3_ := szB hg; clear HB; have HB := n0_; have BK260 := n1_; have GW260 := n2_; have GE260 := n3_; clear n0_ n1_ n2_ n3_; clear hb hbox hg; have hcz12_0 : w11.cell? ⟨gb260, 0, none⟩ = some (.slice A0_0 l0_0.length c0_0) := kZc BK260 0; have hcz12_1 : w11.cell? ⟨gb260, 1, none⟩ = some (.int .i64 a0_1) := kZc BK260 1; have hcz12_2 : w11.cell? ⟨gb260, 2, none⟩ = some (.slice A0_2 l0_2.length c0_2) := kZc BK260 2; have hcz12_3 : w11.cell? ⟨gb260, 3, none⟩ = some (.int .i64 a0_3) := kZc BK260 3; have hcz12_4 : w11.cell? ⟨gb260, 4, none⟩ = some (.int .i64 a0_4) := kZc BK260 4; have hcz12_5 : w11.cell? ⟨gb260, 5, none⟩ = some (.slice A0_5 l0_5.length c0_5) := kZc BK260 5; have hfz12_0 := blk_frozen BK260.out 0; have hfz12_1 := blk_frozen BK260.out 1; have hfz12_2 := blk_frozen BK260.out 2; have hfz12_3 := blk_frozen BK260.out 3; have hfz12_4 := blk_frozen BK260.out 4; have hfz12_5 := blk_frozen BK260.out 5) | (go_at_call 41; (with_reducible refine (impl_WorkOk.calls _ _ l0_0 a0_1 _ _ l0_2 true _ ?side1 ?side2 ?side3 ?side4 A2.out).mono ?_); (case side1 => exact cZr (Kd.C_below HR0_0.out HB.out)); (case side2 => exact HC0_0.out); (case side3 => exact cZr (Kd.C_below HR0_2.out HB.out)); (case side4 => exact HC0_2.out); rintro e w13 ⟨rfl, hb⟩; have n0_ := kbB BK260 hb; have n1_ := bbB hb; clear BK260; clear HB; have BK260 := n0_; have HB := n1_; clear n0_ n1_; (try clear hb); (try clear hb2); (try clear hk); (try clear hi); have hcz14_0 : w13.cell? ⟨gb260, 0, none⟩ = some (.slice A0_0 l0_0.length c0_0) := kZc BK260 0; have hcz14_1 : w13.cell? ⟨gb260, 1, none⟩ = some (.int .i64 a0_1) := kZc BK260 1; have hcz14_2 : w13.cell? ⟨gb260, 2, none⟩ = some (.slice A0_2 l0_2.length c0_2) := kZc BK260 2; have hcz14_3 : w13.cell? ⟨gb260, 3, none⟩ = some (.int .i64 a0_3) := kZc BK260 3; have hcz14_4 : w13.cell? ⟨gb260, 4, none⟩ = some (.int .i64 a0_4) := kZc BK260 4; have hcz14_5 : w13.cell? ⟨gb260, 5, none⟩ = some (.slice A0_5 l0_5.length c0_5) := kZc BK260 5; have hfz14_0 := blk_frozen BK260.out 0; have hfz14_1 := blk_frozen BK260.out 1; have hfz14_2 := blk_frozen BK260.out 2; have hfz14_3 := blk_frozen BK260.out 3; have hfz14_4 := blk_frozen BK260.out 4; have hfz14_5 := blk_frozen BK260.out 5) | (go_at_call 42; (with_reducible refine (impl_LogOk.calls _ _ l0_5 true _ ?side1 ?side2 A4.out).mono ?_); (case side1 => exact cZr (Kd.C_below HR0_5.out HB.out)); (case side2 => exact HC0_5.out); rintro e w15 ⟨rfl, hb⟩; have n0_ := kbB BK260 hb; have n1_ := bbB hb; clear BK260; clear HB; have BK260 := n0_; have HB := n1_; clear n0_ n1_; (try clear hb); (try clear hb2); (try clear hk); (try clear hi); have hcz16_0 : w15.cell? ⟨gb260, 0, none⟩ = some (.slice A0_0 l0_0.length c0_0) := kZc BK260 0; have hcz16_1 : w15.cell? ⟨gb260, 1, none⟩ = some (.int .i64 a0_1) := kZc BK260 1; have hcz16_2 : w15.cell? ⟨gb260, 2, none⟩ = some (.slice A0_2 l0_2.length c0_2) := kZc BK260 2; have hcz16_3 : w15.cell? ⟨gb260, 3, none⟩ = some (.int .i64 a0_3) := kZc BK260 3; have hcz16_4 : w15.cell? ⟨gb260, 4, none⟩ = some (.int .i64 a0_4) := kZc BK260 4; have hcz16_5 : w15.cell? ⟨gb260, 5, none⟩ = some (.slice A0_5 l0_5.length c0_5) := kZc BK260 5; have hfz16_0 := blk_frozen BK260.out 0; have hfz16_1 := blk_frozen BK260.out 1; have hfz16_2 := blk_frozen BK260.out 2; have hfz16_3 := blk_frozen BK260.out 3; have hfz16_4 := blk_frozen BK260.out 4; have hfz16_5 := blk_frozen BK260.out 5) | (go_at_call 43; (with_reducible refine (impl_isWarmth.calls a0_3 true _ A6.out).mono ?_); rintro e w' ⟨rfl, ⟨nd, rfl⟩⟩; (try first | exact ⟨rfl, _, World.drewN_drewN _ _ _⟩ | exact ⟨rfl, _, Eq.trans (World.drewN_drewN _ _ _) (congrArg (World.drewN _) (Nat.add_assoc _ _ _))⟩)) | (go_at_call 44; (with_reducible refine (impl_within.calls a0_4 0 100000 true _ A8.out).mono ?_); rintro e w' ⟨rfl, ⟨nd, rfl⟩⟩; (try first | exact ⟨rfl, _, World.drewN_drewN _ _ _⟩ | exact ⟨rfl, _, Eq.trans (World.drewN_drewN _ _ _) (congrArg (World.drewN _) (Nat.add_assoc _ _ _))⟩))); try go_wp2_with (first | ((with_reducible refine gate_dst (N := 1) rfl ?_); (try (refine gate_guard (by rfl) ?_; dsimp only)); refine box_event ?hg (N := 1) ?hd (cs := #[.slice A0_0 l0_0.length c0_0, .int .i64 a0_1, .slice A0_2 l0_2.length c0_2, .int .i64 a0_3, .int .i64 a0_4, .slice A0_5 l0_5.length c0_5]) (t := 37) ?hr ?_; (case hd => rfl); (case hg => rfl); (case hr => exact GR); intro gb260 hg w11 hbox hb; have n0_ := bbB hb; have n1_ := Aside0.mk (hbox); have n2_ := szB hg; have n3_ := szB hg; clear HB; have HB := n0_; have BK260 := n1_; have GW260 := n2_; have GE260 := n3_; clear n0_ n1_ n2_ n3_; clear hb hbox hg; have hcz12_0 : w11.cell? ⟨gb260, 0, none⟩ = some (.slice A0_0 l0_0.length c0_0) := kZc BK260 0; have hcz12_1 : w11.cell? ⟨gb260, 1, none⟩ = some (.int .i64 a0_1) := kZc BK260 1; have hcz12_2 : w11.cell? ⟨gb260, 2, none⟩ = some (.slice A0_2 l0_2.length c0_2) := kZc BK260 2; have hcz12_3 : w11.cell? ⟨gb260, 3, none⟩ = some (.int .i64 a0_3) := kZc BK260 3; have hcz12_4 : w11.cell? ⟨gb260, 4, none⟩ = some (.int .i64 a0_4) := kZc BK260 4; have hcz12_5 : w11.cell? ⟨gb260, 5, none⟩ = some (.slice A0_5 l0_5.length c0_5) := kZc BK260 5; have hfz12_0 := blk_frozen BK260.out 0; have hfz12_1 := blk_frozen BK260.out 1; have hfz12_2 := blk_frozen BK260.out 2; have hfz12_3 := blk_frozen BK260.out 3; have hfz12_4 := blk_frozen BK260.out 4; have hfz12_5 := blk_frozen BK260.out 5) | (go_at_call 41; (with_reducible refine (impl_WorkOk.calls _ _ l0_0 a0_1 _ _ l0_2 true _ ?side1 ?side2 ?side3 ?side4 A2.out).mono ?_); (case side1 => exact cZr (Kd.C_below HR0_0.out HB.out)); (case side2 => exact HC0_0.out); (case side3 => exact cZr (Kd.C_below HR0_2.out HB.out)); (case side4 => exact HC0_2.out); rintro e w13 ⟨rfl, hb⟩; have n0_ := kbB BK260 hb; have n1_ := bbB hb; clear BK260; clear HB; have BK260 := n0_; have HB := n1_; clear n0_ n1_; (try clear hb); (try clear hb2); (try clear hk); (try clear hi); have hcz14_0 : w13.cell? ⟨gb260, 0, none⟩ = some (.slice A0_0 l0_0.length c0_0) := kZc BK260 0; have hcz14_1 : w13.cell? ⟨gb260, 1, none⟩ = some (.int .i64 a0_1) := kZc BK260 1; have hcz14_2 : w13.cell? ⟨gb260, 2, none⟩ = some (.slice A0_2 l0_2.length c0_2) := kZc BK260 2; have hcz14_3 : w13.cell? ⟨gb260, 3, none⟩ = some (.int .i64 a0_3) := kZc BK260 3; have hcz14_4 : w13.cell? ⟨gb260, 4, none⟩ = some (.int .i64 a0_4) := kZc BK260 4; have hcz14_5 : w13.cell? ⟨gb260, 5, none⟩ = some (.slice A0_5 l0_5.length c0_5) := kZc BK260 5; have hfz14_0 := blk_frozen BK260.out 0; have hfz14_1 := blk_frozen BK260.out 1; have hfz14_2 := blk_frozen BK260.out 2; have hfz14_3 := blk_frozen BK260.out 3; have hfz14_4 := blk_frozen BK260.out 4; have hfz14_5 := blk_frozen BK260.out 5) | (go_at_call 42; (with_reducible refine (impl_LogOk.calls _ _ l0_5 true _ ?side1 ?side2 A4.out).mono ?_); (case side1 => exact cZr (Kd.C_below HR0_5.out HB.out)); (case side2 => exact HC0_5.out); rintro e w15 ⟨rfl, hb⟩; have n0_ := kbB BK260 hb; have n1_ := bbB hb; clear BK260; clear HB; have BK260 := n0_; have HB := n1_; clear n0_ n1_; (try clear hb); (try clear hb2); (try clear hk); (try clear hi); have hcz16_0 : w15.cell? ⟨gb260, 0, none⟩ = some (.slice A0_0 l0_0.length c0_0) := kZc BK260 0; have hcz16_1 : w15.cell? ⟨gb260, 1, none⟩ = some (.int .i64 a0_1) := kZc BK260 1; have hcz16_2 : w15.cell? ⟨gb260, 2, none⟩ = some (.slice A0_2 l0_2.length c0_2) := kZc BK260 2; have hcz16_3 : w15.cell? ⟨gb260, 3, none⟩ = some (.int .i64 a0_3) := kZc BK260 3; have hcz16_4 : w15.cell? ⟨gb260, 4, none⟩ = some (.int .i64 a0_4) := kZc BK260 4; have hcz16_5 : w15.cell? ⟨gb260, 5, none⟩ = some (.slice A0_5 l0_5.length c0_5) := kZc BK260 5; have hfz16_0 := blk_frozen BK260.out 0; have hfz16_1 := blk_frozen BK260.out 1; have hfz16_2 := blk_frozen BK260.out 2; have hfz16_3 := blk_frozen BK260.out 3; have hfz16_4 := blk_frozen BK260.out 4; have hfz16_5 := blk_frozen BK260.out 5) | (go_at_call 43; (with_reducible refine (impl_isWarmth.calls a0_3 true _ A6.out).mono ?_); rintro e w' ⟨rfl, ⟨nd, rfl⟩⟩; (try first | exact ⟨rfl, _, World.drewN_drewN _ _ _⟩ | exact ⟨rfl, _, Eq.trans (World.drewN_drewN _ _ _) (congrArg (World.drewN _) (Nat.add_assoc _ _ _))⟩)) | (go_at_call 44; (with_reducible refine (impl_within.calls a0_4 0 100000 true _ A8.out).mono ?_); rintro e w' ⟨rfl, ⟨nd, rfl⟩⟩; (try first | exact ⟨rfl, _, World.drewN_drewN _ _ _⟩ | exact ⟨rfl, _, Eq.trans (World.drewN_drewN _ _ _) (congrArg (World.drewN _) (Nat.add_assoc _ _ _))⟩))))
      go_ret
      exact ⟨EV, BB⟩
     ·rw [if_neg c10] at H
      have c10b0 := beqF c10
      have c10b1 := bneT c10
      have c10b2 : ¬ (l0_5 = []) := fun h_ => c10 (by rw [h_]; rfl)
      obtain ⟨ji17, hji17⟩ : ∃ j_ : Int, (wrap64 ((l0_5.length : Int) - 1)) = j_ := ⟨_, rfl⟩
      replace H : (if 0 ≤ (ji17) then (if (ji17) < (l0_5.length : Int) then (some (decide (((rd_T61 l0_5 (ji17)).f2) ≤ a0_4))) else (none)) else (none)) = some r := by first | (rw [hji17] at H; exact H) | (simp only [hji17] at H ⊢; exact H)
      (try rw [hji17] at A2)
      (try rw [hji17] at A4)
      (try rw [hji17] at A6)
      (try rw [hji17] at A8)
      have hji17w : (IntKind.i64.wrap ((l0_5.length : Int) - 1)) = ji17 := (i64_w _).trans hji17
      by_cases c18 : 0 ≤ (ji17)
      ·rw [if_pos c18] at H
       have c18b0 := decide_eq_true c18
       clear c18
       by_cases c19 : (ji17) < (l0_5.length : Int)
       ·rw [if_pos c19] at H
        have c19b0 := decide_eq_true c19
        clear c19
        obtain rfl := Option.some.inj H
        go_enter Try.func19, Try.ntmps19
        go_wp2_with (first | ((with_reducible refine gate_dst (N := 1) rfl ?_); (try (refine gate_guard (by rfl) ?_; dsimp only)); refine box_event ?hg (N := 1) ?hd (cs := #[.slice A0_0 l0_0.length c0_0, .int .i64 a0_1, .slice A0_2 l0_2.length c0_2, .int .i64 a0_3, .int .i64 a0_4, .slice A0_5 l0_5.length c0_5]) (t := 37) ?hr ?_; (case hd => rfl); (case hg => rfl); (case hr => exact GR); intro gb260 hg w20 hbox hb; have BK260 := Aside0.mk (hbox); have GW260 := szB hg; have GE260 := szB hg; replace HB := bbB hb; clear hb hbox hg; obtain ⟨hcz21_0, hcz21_1, hcz21_2, hcz21_3, hcz21_4, hcz21_5, hfz21_0, hfz21_1, hfz21_2, hfz21_3, hfz21_4, hfz21_5⟩ := kZc6 BK260) | (go_at_call 41; (with_reducible refine (impl_WorkOk.calls _ _ l0_0 a0_1 _ _ l0_2 true _ ?side1 ?side2 ?side3 ?side4 A2.out).mono ?_); (case side1 => exact cZr (Kd.C_below HR0_0.out HB.out)); (case side2 => exact HC0_0.out); (case side3 => exact cZr (Kd.C_below HR0_2.out HB.out)); (case side4 => exact HC0_2.out); rintro e w22 ⟨rfl, hb⟩; replace BK260 := kbB BK260 hb; replace HB := bbB hb; (try clear hb); obtain ⟨hcz23_0, hcz23_1, hcz23_2, hcz23_3, hcz23_4, hcz23_5, hfz23_0, hfz23_1, hfz23_2, hfz23_3, hfz23_4, hfz23_5⟩ := kZc6 BK260) | (go_at_call 42; (with_reducible refine (impl_LogOk.calls _ _ l0_5 true _ ?side1 ?side2 A4.out).mono ?_); (case side1 => exact cZr (Kd.C_below HR0_5.out HB.out)); (case side2 => exact HC0_5.out); rintro e w24 ⟨rfl, hb⟩; replace BK260 := kbB BK260 hb; replace HB := bbB hb; (try clear hb); obtain ⟨hcz25_0, hcz25_1, hcz25_2, hcz25_3, hcz25_4, hcz25_5, hfz25_0, hfz25_1, hfz25_2, hfz25_3, hfz25_4, hfz25_5⟩ := kZc6 BK260) | (go_at_call 43; (with_reducible refine (impl_isWarmth.calls a0_3 true _ A6.out).mono ?_); rintro e w' ⟨rfl, ⟨nd, rfl⟩⟩; (try first | exact ⟨rfl, _, World.drewN_drewN _ _ _⟩ | exact ⟨rfl, _, Eq.trans (World.drewN_drewN _ _ _) (congrArg (World.drewN _) (Nat.add_assoc _ _ _))⟩)) | (go_at_call 44; (with_reducible refine (impl_within.calls a0_4 0 100000 true _ A8.out).mono ?_); rintro e w' ⟨rfl, ⟨nd, rfl⟩⟩; (try first | exact ⟨rfl, _, World.drewN_drewN _ _ _⟩ | exact ⟨rfl, _, Eq.trans (World.drewN_drewN _ _ _) (congrArg (World.drewN _) (Nat.add_assoc _ _ _))⟩); have p265 : 0 ≤ ((ji17) : Int) := odt; have q265 : (ji17) < (l0_5.length : Int) := odt; obtain ⟨ad265, e265, hx265_0, hx265_1, hx265_2, hx265_3⟩ := at_T61 HR0_5.out (ji17) p265 q265; cases e265; replace hx265_0 := pw_cell_below HB.out hx265_0; replace hx265_1 := pw_cell_below HB.out hx265_1; replace hx265_2 := pw_cell_below HB.out hx265_2; replace hx265_3 := pw_cell_below HB.out hx265_3; replace p265 := eq_true p265; replace q265 := eq_true q265))
        repeat (go_quiet (first | ((with_reducible refine gate_dst (N := 1) rfl ?_); (try (refine gate_guard (by rfl) ?_; dsimp only)); refine box_event ?hg (N := 1) ?hd (cs := #[.slice A0_0 l0_0.length c0_0, .int .i64 a0_1, .slice A0_2 l0_2.length c0_2, .int .i64 a0_3, .int .i64 a0_4, .slice A0_5 l0_5.length c0_5]) (t := 37) ?hr ?_; (case hd => rfl); (case hg => rfl); (case hr => exact GR); intro gb260 hg w20 hbox hb; have n0_ := bbB hb; have n1_ := Aside0.mk (hbox); have n2_ := szB hg; have n3_ := szB hg; clear HB; have HB := n0_; have BK260 := n1_; have GW260 := n2_; have GE260 := n3_; clear n0_ n1_ n2_ n3_; clear hb hbox hg; have hcz21_0 : w20.cell? ⟨gb260, 0, none⟩ = some (.slice A0_0 l0_0.length c0_0) := kZc BK260 0; have hcz21_1 : w20.cell? ⟨gb260, 1, none⟩ = some (.int .i64 a0_1) := kZc BK260 1; have hcz21_2 : w20.cell? ⟨gb260, 2, none⟩ = some (.slice A0_2 l0_2.length c0_2) := kZc BK260 2; have hcz21_3 : w20.cell? ⟨gb260, 3, none⟩ = some (.int .i64 a0_3) := kZc BK260 3; have hcz21_4 : w20.cell? ⟨gb260, 4, none⟩ = some (.int .i64 a0_4) := kZc BK260 4; have hcz21_5 : w20.cell? ⟨gb260, 5, none⟩ = some (.slice A0_5 l0_5.length c0_5) := kZc BK260 5; have hfz21_0 := blk_frozen BK260.out 0; have hfz21_1 := blk_frozen BK260.out 1; have hfz21_2 := blk_frozen BK260.out 2; have hfz21_3 := blk_frozen BK260.out 3; have hfz21_4 := blk_frozen BK260.out 4; have hfz21_5 := blk_frozen BK260.out 5) | (go_at_call 41; (with_reducible refine (impl_WorkOk.calls _ _ l0_0 a0_1 _ _ l0_2 true _ ?side1 ?side2 ?side3 ?side4 A2.out).mono ?_); (case side1 => exact cZr (Kd.C_below HR0_0.out HB.out)); (case side2 => exact HC0_0.out); (case side3 => exact cZr (Kd.C_below HR0_2.out HB.out)); (case side4 => exact HC0_2.out); rintro e w22 ⟨rfl, hb⟩; have n0_ := kbB BK260 hb; have n1_ := bbB hb; clear BK260; clear HB; have BK260 := n0_; have HB := n1_; clear n0_ n1_; (try clear hb); (try clear hb2); (try clear hk); (try clear hi); have hcz23_0 : w22.cell? ⟨gb260, 0, none⟩ = some (.slice A0_0 l0_0.length c0_0) := kZc BK260 0; have hcz23_1 : w22.cell? ⟨gb260, 1, none⟩ = some (.int .i64 a0_1) := kZc BK260 1; have hcz23_2 : w22.cell? ⟨gb260, 2, none⟩ = some (.slice A0_2 l0_2.length c0_2) := kZc BK260 2; have hcz23_3 : w22.cell? ⟨gb260, 3, none⟩ = some (.int .i64 a0_3) := kZc BK260 3; have hcz23_4 : w22.cell? ⟨gb260, 4, none⟩ = some (.int .i64 a0_4) := kZc BK260 4; have hcz23_5 : w22.cell? ⟨gb260, 5, none⟩ = some (.slice A0_5 l0_5.length c0_5) := kZc BK260 5; have hfz23_0 := blk_frozen BK260.out 0; have hfz23_1 := blk_frozen BK260.out 1; have hfz23_2 := blk_frozen BK260.out 2; have hfz23_3 := blk_frozen BK260.out 3; have hfz23_4 := blk_frozen BK260.out 4; have hfz23_5 := blk_frozen BK260.out 5) | (go_at_call 42; (with_reducible refine (impl_LogOk.calls _ _ l0_5 true _ ?side1 ?side2 A4.out).mono ?_); (case side1 => exact cZr (Kd.C_below HR0_5.out HB.out)); (case side2 => exact HC0_5.out); rintro e w24 ⟨rfl, hb⟩; have n0_ := kbB BK260 hb; have n1_ := bbB hb; clear BK260; clear HB; have BK260 := n0_; have HB := n1_; clear n0_ n1_; (try clear hb); (try clear hb2); (try clear hk); (try clear hi); have hcz25_0 : w24.cell? ⟨gb260, 0, none⟩ = some (.slice A0_0 l0_0.length c0_0) := kZc BK260 0; have hcz25_1 : w24.cell? ⟨gb260, 1, none⟩ = some (.int .i64 a0_1) := kZc BK260 1; have hcz25_2 : w24.cell? ⟨gb260, 2, none⟩ = some (.slice A0_2 l0_2.length c0_2) := kZc BK260 2; have hcz25_3 : w24.cell? ⟨gb260, 3, none⟩ = some (.int .i64 a0_3) := kZc BK260 3; have hcz25_4 : w24.cell? ⟨gb260, 4, none⟩ = some (.int .i64 a0_4) := kZc BK260 4; have hcz25_5 : w24.cell? ⟨gb260, 5, none⟩ = some (.slice A0_5 l0_5.length c0_5) := kZc BK260 5; have hfz25_0 := blk_frozen BK260.out 0; have hfz25_1 := blk_frozen BK260.out 1; have hfz25_2 := blk_frozen BK260.out 2; have hfz25_3 := blk_frozen BK260.out 3; have hfz25_4 := blk_frozen BK260.out 4; have hfz25_5 := blk_frozen BK260.out 5) | (go_at_call 43; (with_reducible refine (impl_isWarmth.calls a0_3 true _ A6.out).mono ?_); rintro e w' ⟨rfl, ⟨nd, rfl⟩⟩; (try first | exact ⟨rfl, _, World.drewN_drewN _ _ _⟩ | exact ⟨rfl, _, Eq.trans (World.drewN_drewN _ _ _) (congrArg (World.drewN _) (Nat.add_assoc _ _ _))⟩)) | (go_at_call 44; (with_reducible refine (impl_within.calls a0_4 0 100000 true _ A8.out).mono ?_); rintro e w' ⟨rfl, ⟨nd, rfl⟩⟩; (try first | exact ⟨rfl, _, World.drewN_drewN _ _ _⟩ | exact ⟨rfl, _, Eq.trans (World.drewN_drewN _ _ _) (congrArg (World.drewN _) (Nat.add_assoc _ _ _))⟩); have p265 : 0 ≤ ((ji17) : Int) := odt; have q265 : (ji17) < (l0_5.length : Int) := odt; obtain ⟨ad265, e265, hx265_0, hx265_1, hx265_2, hx265_3⟩ := at_T61 HR0_5.out (ji17) p265 q265; cases e265; replace hx265_0 := pw_cell_below HB.out hx265_0; replace hx265_1 := pw_cell_below HB.out hx265_1; replace hx265_2 := pw_cell_below HB.out hx265_2; replace hx265_3 := pw_cell_below HB.out hx265_3; replace p265 := eq_true p265; replace q265 := eq_true q265)); try go_wp2_with (first | ((with_reducible refine gate_dst (N := 1) rfl ?_); (try (refine gate_guard (by rfl) ?_; dsimp only)); refine box_event ?hg (N := 1) ?hd (cs := #[.slice A0_0 l0_0.length c0_0, .int .i64 a0_1, .slice A0_2 l0_2.length c0_2, .int .i64 a0_3, .int .i64 a0_4, .slice A0_5 l0_5.length c0_5]) (t := 37) ?hr ?_; (case hd => rfl); (case hg => rfl); (case hr => exact GR); intro gb260 hg w20 hbox hb; have n0_ := bbB hb; have n1_ := Aside0.mk (hbox); have n2_ := szB hg; have n3_ := szB hg; clear HB; have HB := n0_; have BK260 := n1_; have GW260 := n2_; have GE260 := n3_; clear n0_ n1_ n2_ n3_; clear hb hbox hg; have hcz21_0 : w20.cell? ⟨gb260, 0, none⟩ = some (.slice A0_0 l0_0.length c0_0) := kZc BK260 0; have hcz21_1 : w20.cell? ⟨gb260, 1, none⟩ = some (.int .i64 a0_1) := kZc BK260 1; have hcz21_2 : w20.cell? ⟨gb260, 2, none⟩ = some (.slice A0_2 l0_2.length c0_2) := kZc BK260 2; have hcz21_3 : w20.cell? ⟨gb260, 3, none⟩ = some (.int .i64 a0_3) := kZc BK260 3; have hcz21_4 : w20.cell? ⟨gb260, 4, none⟩ = some (.int .i64 a0_4) := kZc BK260 4; have hcz21_5 : w20.cell? ⟨gb260, 5, none⟩ = some (.slice A0_5 l0_5.length c0_5) := kZc BK260 5; have hfz21_0 := blk_frozen BK260.out 0; have hfz21_1 := blk_frozen BK260.out 1; have hfz21_2 := blk_frozen BK260.out 2; have hfz21_3 := blk_frozen BK260.out 3; have hfz21_4 := blk_frozen BK260.out 4; have hfz21_5 := blk_frozen BK260.out 5) | (go_at_call 41; (with_reducible refine (impl_WorkOk.calls _ _ l0_0 a0_1 _ _ l0_2 true _ ?side1 ?side2 ?side3 ?side4 A2.out).mono ?_); (case side1 => exact cZr (Kd.C_below HR0_0.out HB.out)); (case side2 => exact HC0_0.out); (case side3 => exact cZr (Kd.C_below HR0_2.out HB.out)); (case side4 => exact HC0_2.out); rintro e w22 ⟨rfl, hb⟩; have n0_ := kbB BK260 hb; have n1_ := bbB hb; clear BK260; clear HB; have BK260 := n0_; have HB := n1_; clear n0_ n1_; (try clear hb); (try clear hb2); (try clear hk); (try clear hi); have hcz23_0 : w22.cell? ⟨gb260, 0, none⟩ = some (.slice A0_0 l0_0.length c0_0) := kZc BK260 0; have hcz23_1 : w22.cell? ⟨gb260, 1, none⟩ = some (.int .i64 a0_1) := kZc BK260 1; have hcz23_2 : w22.cell? ⟨gb260, 2, none⟩ = some (.slice A0_2 l0_2.length c0_2) := kZc BK260 2; have hcz23_3 : w22.cell? ⟨gb260, 3, none⟩ = some (.int .i64 a0_3) := kZc BK260 3; have hcz23_4 : w22.cell? ⟨gb260, 4, none⟩ = some (.int .i64 a0_4) := kZc BK260 4; have hcz23_5 : w22.cell? ⟨gb260, 5, none⟩ = some (.slice A0_5 l0_5.length c0_5) := kZc BK260 5; have hfz23_0 := blk_frozen BK260.out 0; have hfz23_1 := blk_frozen BK260.out 1; have hfz23_2 := blk_frozen BK260.out 2; have hfz23_3 := blk_frozen BK260.out 3; have hfz23_4 := blk_frozen BK260.out 4; have hfz23_5 := blk_frozen BK260.out 5) | (go_at_call 42; (with_reducible refine (impl_LogOk.calls _ _ l0_5 true _ ?side1 ?side2 A4.out).mono ?_); (case side1 => exact cZr (Kd.C_below HR0_5.out HB.out)); (case side2 => exact HC0_5.out); rintro e w24 ⟨rfl, hb⟩; have n0_ := kbB BK260 hb; have n1_ := bbB hb; clear BK260; clear HB; have BK260 := n0_; have HB := n1_; clear n0_ n1_; (try clear hb); (try clear hb2); (try clear hk); (try clear hi); have hcz25_0 : w24.cell? ⟨gb260, 0, none⟩ = some (.slice A0_0 l0_0.length c0_0) := kZc BK260 0; have hcz25_1 : w24.cell? ⟨gb260, 1, none⟩ = some (.int .i64 a0_1) := kZc BK260 1; have hcz25_2 : w24.cell? ⟨gb260, 2, none⟩ = some (.slice A0_2 l0_2.length c0_2) := kZc BK260 2; have hcz25_3 : w24.cell? ⟨gb260, 3, none⟩ = some (.int .i64 a0_3) := kZc BK260 3; have hcz25_4 : w24.cell? ⟨gb260, 4, none⟩ = some (.int .i64 a0_4) := kZc BK260 4; have hcz25_5 : w24.cell? ⟨gb260, 5, none⟩ = some (.slice A0_5 l0_5.length c0_5) := kZc BK260 5; have hfz25_0 := blk_frozen BK260.out 0; have hfz25_1 := blk_frozen BK260.out 1; have hfz25_2 := blk_frozen BK260.out 2; have hfz25_3 := blk_frozen BK260.out 3; have hfz25_4 := blk_frozen BK260.out 4; have hfz25_5 := blk_frozen BK260.out 5) | (go_at_call 43; (with_reducible refine (impl_isWarmth.calls a0_3 true _ A6.out).mono ?_); rintro e w' ⟨rfl, ⟨nd, rfl⟩⟩; (try first | exact ⟨rfl, _, World.drewN_drewN _ _ _⟩ | exact ⟨rfl, _, Eq.trans (World.drewN_drewN _ _ _) (congrArg (World.drewN _) (Nat.add_assoc _ _ _))⟩)) | (go_at_call 44; (with_reducible refine (impl_within.calls a0_4 0 100000 true _ A8.out).mono ?_); rintro e w' ⟨rfl, ⟨nd, rfl⟩⟩; (try first | exact ⟨rfl, _, World.drewN_drewN _ _ _⟩ | exact ⟨rfl, _, Eq.trans (World.drewN_drewN _ _ _) (congrArg (World.drewN _) (Nat.add_assoc _ _ _))⟩); have p265 : 0 ≤ ((ji17) : Int) := odt; have q265 : (ji17) < (l0_5.length : Int) := odt; obtain ⟨ad265, e265, hx265_0, hx265_1, hx265_2, hx265_3⟩ := at_T61 HR0_5.out (ji17) p265 q265; cases e265; replace hx265_0 := pw_cell_below HB.out hx265_0; replace hx265_1 := pw_cell_below HB.out hx265_1; replace hx265_2 := pw_cell_below HB.out hx265_2; replace hx265_3 := pw_cell_below HB.out hx265_3; replace p265 := eq_true p265; replace q265 := eq_true q265)))
        go_ret
        exact ⟨by first | rfl | (simp [errW_none, errW_some] <;> rfl) | (simp only [← hji17]; first | rfl | (simp [errW_none, errW_some] <;> rfl)) | (simp [*, errW_none, errW_some] <;> rfl), BB⟩
       ·rw [if_neg c19] at H
        exact absurd H (by simp)
      ·rw [if_neg c18] at H
       exact absurd H (by simp)
    ·replace c9 := Bool.eq_false_iff.mpr c9
     subst c9
     rw [if_neg nft] at H
     obtain rfl := Option.some.inj H
     go_enter Try.func19, Try.ntmps19
     go_wp2_with (first | ((with_reducible refine gate_dst (N := 1) rfl ?_); (try (refine gate_guard (by rfl) ?_; dsimp only)); refine box_event ?hg (N := 1) ?hd (cs := #[.slice A0_0 l0_0.length c0_0, .int .i64 a0_1, .slice A0_2 l0_2.length c0_2, .int .i64 a0_3, .int .i64 a0_4, .slice A0_5 l0_5.length c0_5]) (t := 37) ?hr ?_; (case hd => rfl); (case hg => rfl); (case hr => exact GR); intro gb260 hg w26 hbox hb; have BK260 := Aside0.mk (hbox); have GW260 := szB hg; have GE260 := szB hg; replace HB := bbB hb; clear hb hbox hg; obtain ⟨hcz27_0, hcz27_1, hcz27_2, hcz27_3, hcz27_4, hcz27_5, hfz27_0, hfz27_1, hfz27_2, hfz27_3, hfz27_4, hfz27_5⟩ := kZc6 BK260) | (go_at_call 41; (with_reducible refine (impl_WorkOk.calls _ _ l0_0 a0_1 _ _ l0_2 true _ ?side1 ?side2 ?side3 ?side4 A2.out).mono ?_); (case side1 => exact cZr (Kd.C_below HR0_0.out HB.out)); (case side2 => exact HC0_0.out); (case side3 => exact cZr (Kd.C_below HR0_2.out HB.out)); (case side4 => exact HC0_2.out); rintro e w28 ⟨rfl, hb⟩; replace BK260 := kbB BK260 hb; replace HB := bbB hb; (try clear hb); obtain ⟨hcz29_0, hcz29_1, hcz29_2, hcz29_3, hcz29_4, hcz29_5, hfz29_0, hfz29_1, hfz29_2, hfz29_3, hfz29_4, hfz29_5⟩ := kZc6 BK260) | (go_at_call 42; (with_reducible refine (impl_LogOk.calls _ _ l0_5 true _ ?side1 ?side2 A4.out).mono ?_); (case side1 => exact cZr (Kd.C_below HR0_5.out HB.out)); (case side2 => exact HC0_5.out); rintro e w30 ⟨rfl, hb⟩; replace BK260 := kbB BK260 hb; replace HB := bbB hb; (try clear hb); obtain ⟨hcz31_0, hcz31_1, hcz31_2, hcz31_3, hcz31_4, hcz31_5, hfz31_0, hfz31_1, hfz31_2, hfz31_3, hfz31_4, hfz31_5⟩ := kZc6 BK260) | (go_at_call 43; (with_reducible refine (impl_isWarmth.calls a0_3 true _ A6.out).mono ?_); rintro e w' ⟨rfl, ⟨nd, rfl⟩⟩; (try first | exact ⟨rfl, _, World.drewN_drewN _ _ _⟩ | exact ⟨rfl, _, Eq.trans (World.drewN_drewN _ _ _) (congrArg (World.drewN _) (Nat.add_assoc _ _ _))⟩)) | (go_at_call 44; (with_reducible refine (impl_within.calls a0_4 0 100000 false _ A8.out).mono ?_); rintro e w' ⟨rfl, ⟨nd, rfl⟩⟩; (try first | exact ⟨rfl, _, World.drewN_drewN _ _ _⟩ | exact ⟨rfl, _, Eq.trans (World.drewN_drewN _ _ _) (congrArg (World.drewN _) (Nat.add_assoc _ _ _))⟩)))
     repeat (go_quiet (first | ((with_reducible refine gate_dst (N := 1) rfl ?_); (try (refine gate_guard (by rfl) ?_; dsimp only)); refine box_event ?hg (N := 1) ?hd (cs := #[.slice A0_0 l0_0.length c0_0, .int .i64 a0_1, .slice A0_2 l0_2.length c0_2, .int .i64 a0_3, .int .i64 a0_4, .slice A0_5 l0_5.length c0_5]) (t := 37) ?hr ?_; (case hd => rfl); (case hg => rfl); (case hr => exact GR); intro gb260 hg w26 hbox hb; have n0_ := bbB hb; have n1_ := Aside0.mk (hbox); have n2_ := szB hg; have n3_ := szB hg; clear HB; have HB := n0_; have BK260 := n1_; have GW260 := n2_; have GE260 := n3_; clear n0_ n1_ n2_ n3_; clear hb hbox hg; have hcz27_0 : w26.cell? ⟨gb260, 0, none⟩ = some (.slice A0_0 l0_0.length c0_0) := kZc BK260 0; have hcz27_1 : w26.cell? ⟨gb260, 1, none⟩ = some (.int .i64 a0_1) := kZc BK260 1; have hcz27_2 : w26.cell? ⟨gb260, 2, none⟩ = some (.slice A0_2 l0_2.length c0_2) := kZc BK260 2; have hcz27_3 : w26.cell? ⟨gb260, 3, none⟩ = some (.int .i64 a0_3) := kZc BK260 3; have hcz27_4 : w26.cell? ⟨gb260, 4, none⟩ = some (.int .i64 a0_4) := kZc BK260 4; have hcz27_5 : w26.cell? ⟨gb260, 5, none⟩ = some (.slice A0_5 l0_5.length c0_5) := kZc BK260 5; have hfz27_0 := blk_frozen BK260.out 0; have hfz27_1 := blk_frozen BK260.out 1; have hfz27_2 := blk_frozen BK260.out 2; have hfz27_3 := blk_frozen BK260.out 3; have hfz27_4 := blk_frozen BK260.out 4; have hfz27_5 := blk_frozen BK260.out 5) | (go_at_call 41; (with_reducible refine (impl_WorkOk.calls _ _ l0_0 a0_1 _ _ l0_2 true _ ?side1 ?side2 ?side3 ?side4 A2.out).mono ?_); (case side1 => exact cZr (Kd.C_below HR0_0.out HB.out)); (case side2 => exact HC0_0.out); (case side3 => exact cZr (Kd.C_below HR0_2.out HB.out)); (case side4 => exact HC0_2.out); rintro e w28 ⟨rfl, hb⟩; have n0_ := kbB BK260 hb; have n1_ := bbB hb; clear BK260; clear HB; have BK260 := n0_; have HB := n1_; clear n0_ n1_; (try clear hb); (try clear hb2); (try clear hk); (try clear hi); have hcz29_0 : w28.cell? ⟨gb260, 0, none⟩ = some (.slice A0_0 l0_0.length c0_0) := kZc BK260 0; have hcz29_1 : w28.cell? ⟨gb260, 1, none⟩ = some (.int .i64 a0_1) := kZc BK260 1; have hcz29_2 : w28.cell? ⟨gb260, 2, none⟩ = some (.slice A0_2 l0_2.length c0_2) := kZc BK260 2; have hcz29_3 : w28.cell? ⟨gb260, 3, none⟩ = some (.int .i64 a0_3) := kZc BK260 3; have hcz29_4 : w28.cell? ⟨gb260, 4, none⟩ = some (.int .i64 a0_4) := kZc BK260 4; have hcz29_5 : w28.cell? ⟨gb260, 5, none⟩ = some (.slice A0_5 l0_5.length c0_5) := kZc BK260 5; have hfz29_0 := blk_frozen BK260.out 0; have hfz29_1 := blk_frozen BK260.out 1; have hfz29_2 := blk_frozen BK260.out 2; have hfz29_3 := blk_frozen BK260.out 3; have hfz29_4 := blk_frozen BK260.out 4; have hfz29_5 := blk_frozen BK260.out 5) | (go_at_call 42; (with_reducible refine (impl_LogOk.calls _ _ l0_5 true _ ?side1 ?side2 A4.out).mono ?_); (case side1 => exact cZr (Kd.C_below HR0_5.out HB.out)); (case side2 => exact HC0_5.out); rintro e w30 ⟨rfl, hb⟩; have n0_ := kbB BK260 hb; have n1_ := bbB hb; clear BK260; clear HB; have BK260 := n0_; have HB := n1_; clear n0_ n1_; (try clear hb); (try clear hb2); (try clear hk); (try clear hi); have hcz31_0 : w30.cell? ⟨gb260, 0, none⟩ = some (.slice A0_0 l0_0.length c0_0) := kZc BK260 0; have hcz31_1 : w30.cell? ⟨gb260, 1, none⟩ = some (.int .i64 a0_1) := kZc BK260 1; have hcz31_2 : w30.cell? ⟨gb260, 2, none⟩ = some (.slice A0_2 l0_2.length c0_2) := kZc BK260 2; have hcz31_3 : w30.cell? ⟨gb260, 3, none⟩ = some (.int .i64 a0_3) := kZc BK260 3; have hcz31_4 : w30.cell? ⟨gb260, 4, none⟩ = some (.int .i64 a0_4) := kZc BK260 4; have hcz31_5 : w30.cell? ⟨gb260, 5, none⟩ = some (.slice A0_5 l0_5.length c0_5) := kZc BK260 5; have hfz31_0 := blk_frozen BK260.out 0; have hfz31_1 := blk_frozen BK260.out 1; have hfz31_2 := blk_frozen BK260.out 2; have hfz31_3 := blk_frozen BK260.out 3; have hfz31_4 := blk_frozen BK260.out 4; have hfz31_5 := blk_frozen BK260.out 5) | (go_at_call 43; (with_reducible refine (impl_isWarmth.calls a0_3 true _ A6.out).mono ?_); rintro e w' ⟨rfl, ⟨nd, rfl⟩⟩; (try first | exact ⟨rfl, _, World.drewN_drewN _ _ _⟩ | exact ⟨rfl, _, Eq.trans (World.drewN_drewN _ _ _) (congrArg (World.drewN _) (Nat.add_assoc _ _ _))⟩)) | (go_at_call 44; (with_reducible refine (impl_within.calls a0_4 0 100000 false _ A8.out).mono ?_); rintro e w' ⟨rfl, ⟨nd, rfl⟩⟩; (try first | exact ⟨rfl, _, World.drewN_drewN _ _ _⟩ | exact ⟨rfl, _, Eq.trans (World.drewN_drewN _ _ _) (congrArg (World.drewN _) (Nat.add_assoc _ _ _))⟩))); try go_wp2_with (first | ((with_reducible refine gate_dst (N := 1) rfl ?_); (try (refine gate_guard (by rfl) ?_; dsimp only)); refine box_event ?hg (N := 1) ?hd (cs := #[.slice A0_0 l0_0.length c0_0, .int .i64 a0_1, .slice A0_2 l0_2.length c0_2, .int .i64 a0_3, .int .i64 a0_4, .slice A0_5 l0_5.length c0_5]) (t := 37) ?hr ?_; (case hd => rfl); (case hg => rfl); (case hr => exact GR); intro gb260 hg w26 hbox hb; have n0_ := bbB hb; have n1_ := Aside0.mk (hbox); have n2_ := szB hg; have n3_ := szB hg; clear HB; have HB := n0_; have BK260 := n1_; have GW260 := n2_; have GE260 := n3_; clear n0_ n1_ n2_ n3_; clear hb hbox hg; have hcz27_0 : w26.cell? ⟨gb260, 0, none⟩ = some (.slice A0_0 l0_0.length c0_0) := kZc BK260 0; have hcz27_1 : w26.cell? ⟨gb260, 1, none⟩ = some (.int .i64 a0_1) := kZc BK260 1; have hcz27_2 : w26.cell? ⟨gb260, 2, none⟩ = some (.slice A0_2 l0_2.length c0_2) := kZc BK260 2; have hcz27_3 : w26.cell? ⟨gb260, 3, none⟩ = some (.int .i64 a0_3) := kZc BK260 3; have hcz27_4 : w26.cell? ⟨gb260, 4, none⟩ = some (.int .i64 a0_4) := kZc BK260 4; have hcz27_5 : w26.cell? ⟨gb260, 5, none⟩ = some (.slice A0_5 l0_5.length c0_5) := kZc BK260 5; have hfz27_0 := blk_frozen BK260.out 0; have hfz27_1 := blk_frozen BK260.out 1; have hfz27_2 := blk_frozen BK260.out 2; have hfz27_3 := blk_frozen BK260.out 3; have hfz27_4 := blk_frozen BK260.out 4; have hfz27_5 := blk_frozen BK260.out 5) | (go_at_call 41; (with_reducible refine (impl_WorkOk.calls _ _ l0_0 a0_1 _ _ l0_2 true _ ?side1 ?side2 ?side3 ?side4 A2.out).mono ?_); (case side1 => exact cZr (Kd.C_below HR0_0.out HB.out)); (case side2 => exact HC0_0.out); (case side3 => exact cZr (Kd.C_below HR0_2.out HB.out)); (case side4 => exact HC0_2.out); rintro e w28 ⟨rfl, hb⟩; have n0_ := kbB BK260 hb; have n1_ := bbB hb; clear BK260; clear HB; have BK260 := n0_; have HB := n1_; clear n0_ n1_; (try clear hb); (try clear hb2); (try clear hk); (try clear hi); have hcz29_0 : w28.cell? ⟨gb260, 0, none⟩ = some (.slice A0_0 l0_0.length c0_0) := kZc BK260 0; have hcz29_1 : w28.cell? ⟨gb260, 1, none⟩ = some (.int .i64 a0_1) := kZc BK260 1; have hcz29_2 : w28.cell? ⟨gb260, 2, none⟩ = some (.slice A0_2 l0_2.length c0_2) := kZc BK260 2; have hcz29_3 : w28.cell? ⟨gb260, 3, none⟩ = some (.int .i64 a0_3) := kZc BK260 3; have hcz29_4 : w28.cell? ⟨gb260, 4, none⟩ = some (.int .i64 a0_4) := kZc BK260 4; have hcz29_5 : w28.cell? ⟨gb260, 5, none⟩ = some (.slice A0_5 l0_5.length c0_5) := kZc BK260 5; have hfz29_0 := blk_frozen BK260.out 0; have hfz29_1 := blk_frozen BK260.out 1; have hfz29_2 := blk_frozen BK260.out 2; have hfz29_3 := blk_frozen BK260.out 3; have hfz29_4 := blk_frozen BK260.out 4; have hfz29_5 := blk_frozen BK260.out 5) | (go_at_call 42; (with_reducible refine (impl_LogOk.calls _ _ l0_5 true _ ?side1 ?side2 A4.out).mono ?_); (case side1 => exact cZr (Kd.C_below HR0_5.out HB.out)); (case side2 => exact HC0_5.out); rintro e w30 ⟨rfl, hb⟩; have n0_ := kbB BK260 hb; have n1_ := bbB hb; clear BK260; clear HB; have BK260 := n0_; have HB := n1_; clear n0_ n1_; (try clear hb); (try clear hb2); (try clear hk); (try clear hi); have hcz31_0 : w30.cell? ⟨gb260, 0, none⟩ = some (.slice A0_0 l0_0.length c0_0) := kZc BK260 0; have hcz31_1 : w30.cell? ⟨gb260, 1, none⟩ = some (.int .i64 a0_1) := kZc BK260 1; have hcz31_2 : w30.cell? ⟨gb260, 2, none⟩ = some (.slice A0_2 l0_2.length c0_2) := kZc BK260 2; have hcz31_3 : w30.cell? ⟨gb260, 3, none⟩ = some (.int .i64 a0_3) := kZc BK260 3; have hcz31_4 : w30.cell? ⟨gb260, 4, none⟩ = some (.int .i64 a0_4) := kZc BK260 4; have hcz31_5 : w30.cell? ⟨gb260, 5, none⟩ = some (.slice A0_5 l0_5.length c0_5) := kZc BK260 5; have hfz31_0 := blk_frozen BK260.out 0; have hfz31_1 := blk_frozen BK260.out 1; have hfz31_2 := blk_frozen BK260.out 2; have hfz31_3 := blk_frozen BK260.out 3; have hfz31_4 := blk_frozen BK260.out 4; have hfz31_5 := blk_frozen BK260.out 5) | (go_at_call 43; (with_reducible refine (impl_isWarmth.calls a0_3 true _ A6.out).mono ?_); rintro e w' ⟨rfl, ⟨nd, rfl⟩⟩; (try first | exact ⟨rfl, _, World.drewN_drewN _ _ _⟩ | exact ⟨rfl, _, Eq.trans (World.drewN_drewN _ _ _) (congrArg (World.drewN _) (Nat.add_assoc _ _ _))⟩)) | (go_at_call 44; (with_reducible refine (impl_within.calls a0_4 0 100000 false _ A8.out).mono ?_); rintro e w' ⟨rfl, ⟨nd, rfl⟩⟩; (try first | exact ⟨rfl, _, World.drewN_drewN _ _ _⟩ | exact ⟨rfl, _, Eq.trans (World.drewN_drewN _ _ _) (congrArg (World.drewN _) (Nat.add_assoc _ _ _))⟩))))
     go_ret
     exact ⟨EV, BB⟩
   ·replace c7 := Bool.eq_false_iff.mpr c7
    subst c7
    rw [if_neg nft] at H
    obtain rfl := Option.some.inj H
    go_enter Try.func19, Try.ntmps19
    go_wp2_with (first | ((with_reducible refine gate_dst (N := 1) rfl ?_); (try (refine gate_guard (by rfl) ?_; dsimp only)); refine box_event ?hg (N := 1) ?hd (cs := #[.slice A0_0 l0_0.length c0_0, .int .i64 a0_1, .slice A0_2 l0_2.length c0_2, .int .i64 a0_3, .int .i64 a0_4, .slice A0_5 l0_5.length c0_5]) (t := 37) ?hr ?_; (case hd => rfl); (case hg => rfl); (case hr => exact GR); intro gb260 hg w32 hbox hb; have BK260 := Aside0.mk (hbox); have GW260 := szB hg; have GE260 := szB hg; replace HB := bbB hb; clear hb hbox hg; obtain ⟨hcz33_0, hcz33_1, hcz33_2, hcz33_3, hcz33_4, hcz33_5, hfz33_0, hfz33_1, hfz33_2, hfz33_3, hfz33_4, hfz33_5⟩ := kZc6 BK260) | (go_at_call 41; (with_reducible refine (impl_WorkOk.calls _ _ l0_0 a0_1 _ _ l0_2 true _ ?side1 ?side2 ?side3 ?side4 A2.out).mono ?_); (case side1 => exact cZr (Kd.C_below HR0_0.out HB.out)); (case side2 => exact HC0_0.out); (case side3 => exact cZr (Kd.C_below HR0_2.out HB.out)); (case side4 => exact HC0_2.out); rintro e w34 ⟨rfl, hb⟩; replace BK260 := kbB BK260 hb; replace HB := bbB hb; (try clear hb); obtain ⟨hcz35_0, hcz35_1, hcz35_2, hcz35_3, hcz35_4, hcz35_5, hfz35_0, hfz35_1, hfz35_2, hfz35_3, hfz35_4, hfz35_5⟩ := kZc6 BK260) | (go_at_call 42; (with_reducible refine (impl_LogOk.calls _ _ l0_5 true _ ?side1 ?side2 A4.out).mono ?_); (case side1 => exact cZr (Kd.C_below HR0_5.out HB.out)); (case side2 => exact HC0_5.out); rintro e w36 ⟨rfl, hb⟩; replace BK260 := kbB BK260 hb; replace HB := bbB hb; (try clear hb); obtain ⟨hcz37_0, hcz37_1, hcz37_2, hcz37_3, hcz37_4, hcz37_5, hfz37_0, hfz37_1, hfz37_2, hfz37_3, hfz37_4, hfz37_5⟩ := kZc6 BK260) | (go_at_call 43; (with_reducible refine (impl_isWarmth.calls a0_3 false _ A6.out).mono ?_); rintro e w' ⟨rfl, ⟨nd, rfl⟩⟩; (try first | exact ⟨rfl, _, World.drewN_drewN _ _ _⟩ | exact ⟨rfl, _, Eq.trans (World.drewN_drewN _ _ _) (congrArg (World.drewN _) (Nat.add_assoc _ _ _))⟩)))
    repeat (go_quiet (first | ((with_reducible refine gate_dst (N := 1) rfl ?_); (try (refine gate_guard (by rfl) ?_; dsimp only)); refine box_event ?hg (N := 1) ?hd (cs := #[.slice A0_0 l0_0.length c0_0, .int .i64 a0_1, .slice A0_2 l0_2.length c0_2, .int .i64 a0_3, .int .i64 a0_4, .slice A0_5 l0_5.length c0_5]) (t := 37) ?hr ?_; (case hd => rfl); (case hg => rfl); (case hr => exact GR); intro gb260 hg w32 hbox hb; have n0_ := bbB hb; have n1_ := Aside0.mk (hbox); have n2_ := szB hg; have n3_ := szB hg; clear HB; have HB := n0_; have BK260 := n1_; have GW260 := n2_; have GE260 := n3_; clear n0_ n1_ n2_ n3_; clear hb hbox hg; have hcz33_0 : w32.cell? ⟨gb260, 0, none⟩ = some (.slice A0_0 l0_0.length c0_0) := kZc BK260 0; have hcz33_1 : w32.cell? ⟨gb260, 1, none⟩ = some (.int .i64 a0_1) := kZc BK260 1; have hcz33_2 : w32.cell? ⟨gb260, 2, none⟩ = some (.slice A0_2 l0_2.length c0_2) := kZc BK260 2; have hcz33_3 : w32.cell? ⟨gb260, 3, none⟩ = some (.int .i64 a0_3) := kZc BK260 3; have hcz33_4 : w32.cell? ⟨gb260, 4, none⟩ = some (.int .i64 a0_4) := kZc BK260 4; have hcz33_5 : w32.cell? ⟨gb260, 5, none⟩ = some (.slice A0_5 l0_5.length c0_5) := kZc BK260 5; have hfz33_0 := blk_frozen BK260.out 0; have hfz33_1 := blk_frozen BK260.out 1; have hfz33_2 := blk_frozen BK260.out 2; have hfz33_3 := blk_frozen BK260.out 3; have hfz33_4 := blk_frozen BK260.out 4; have hfz33_5 := blk_frozen BK260.out 5) | (go_at_call 41; (with_reducible refine (impl_WorkOk.calls _ _ l0_0 a0_1 _ _ l0_2 true _ ?side1 ?side2 ?side3 ?side4 A2.out).mono ?_); (case side1 => exact cZr (Kd.C_below HR0_0.out HB.out)); (case side2 => exact HC0_0.out); (case side3 => exact cZr (Kd.C_below HR0_2.out HB.out)); (case side4 => exact HC0_2.out); rintro e w34 ⟨rfl, hb⟩; have n0_ := kbB BK260 hb; have n1_ := bbB hb; clear BK260; clear HB; have BK260 := n0_; have HB := n1_; clear n0_ n1_; (try clear hb); (try clear hb2); (try clear hk); (try clear hi); have hcz35_0 : w34.cell? ⟨gb260, 0, none⟩ = some (.slice A0_0 l0_0.length c0_0) := kZc BK260 0; have hcz35_1 : w34.cell? ⟨gb260, 1, none⟩ = some (.int .i64 a0_1) := kZc BK260 1; have hcz35_2 : w34.cell? ⟨gb260, 2, none⟩ = some (.slice A0_2 l0_2.length c0_2) := kZc BK260 2; have hcz35_3 : w34.cell? ⟨gb260, 3, none⟩ = some (.int .i64 a0_3) := kZc BK260 3; have hcz35_4 : w34.cell? ⟨gb260, 4, none⟩ = some (.int .i64 a0_4) := kZc BK260 4; have hcz35_5 : w34.cell? ⟨gb260, 5, none⟩ = some (.slice A0_5 l0_5.length c0_5) := kZc BK260 5; have hfz35_0 := blk_frozen BK260.out 0; have hfz35_1 := blk_frozen BK260.out 1; have hfz35_2 := blk_frozen BK260.out 2; have hfz35_3 := blk_frozen BK260.out 3; have hfz35_4 := blk_frozen BK260.out 4; have hfz35_5 := blk_frozen BK260.out 5) | (go_at_call 42; (with_reducible refine (impl_LogOk.calls _ _ l0_5 true _ ?side1 ?side2 A4.out).mono ?_); (case side1 => exact cZr (Kd.C_below HR0_5.out HB.out)); (case side2 => exact HC0_5.out); rintro e w36 ⟨rfl, hb⟩; have n0_ := kbB BK260 hb; have n1_ := bbB hb; clear BK260; clear HB; have BK260 := n0_; have HB := n1_; clear n0_ n1_; (try clear hb); (try clear hb2); (try clear hk); (try clear hi); have hcz37_0 : w36.cell? ⟨gb260, 0, none⟩ = some (.slice A0_0 l0_0.length c0_0) := kZc BK260 0; have hcz37_1 : w36.cell? ⟨gb260, 1, none⟩ = some (.int .i64 a0_1) := kZc BK260 1; have hcz37_2 : w36.cell? ⟨gb260, 2, none⟩ = some (.slice A0_2 l0_2.length c0_2) := kZc BK260 2; have hcz37_3 : w36.cell? ⟨gb260, 3, none⟩ = some (.int .i64 a0_3) := kZc BK260 3; have hcz37_4 : w36.cell? ⟨gb260, 4, none⟩ = some (.int .i64 a0_4) := kZc BK260 4; have hcz37_5 : w36.cell? ⟨gb260, 5, none⟩ = some (.slice A0_5 l0_5.length c0_5) := kZc BK260 5; have hfz37_0 := blk_frozen BK260.out 0; have hfz37_1 := blk_frozen BK260.out 1; have hfz37_2 := blk_frozen BK260.out 2; have hfz37_3 := blk_frozen BK260.out 3; have hfz37_4 := blk_frozen BK260.out 4; have hfz37_5 := blk_frozen BK260.out 5) | (go_at_call 43; (with_reducible refine (impl_isWarmth.calls a0_3 false _ A6.out).mono ?_); rintro e w' ⟨rfl, ⟨nd, rfl⟩⟩; (try first | exact ⟨rfl, _, World.drewN_drewN _ _ _⟩ | exact ⟨rfl, _, Eq.trans (World.drewN_drewN _ _ _) (congrArg (World.drewN _) (Nat.add_assoc _ _ _))⟩))); try go_wp2_with (first | ((with_reducible refine gate_dst (N := 1) rfl ?_); (try (refine gate_guard (by rfl) ?_; dsimp only)); refine box_event ?hg (N := 1) ?hd (cs := #[.slice A0_0 l0_0.length c0_0, .int .i64 a0_1, .slice A0_2 l0_2.length c0_2, .int .i64 a0_3, .int .i64 a0_4, .slice A0_5 l0_5.length c0_5]) (t := 37) ?hr ?_; (case hd => rfl); (case hg => rfl); (case hr => exact GR); intro gb260 hg w32 hbox hb; have n0_ := bbB hb; have n1_ := Aside0.mk (hbox); have n2_ := szB hg; have n3_ := szB hg; clear HB; have HB := n0_; have BK260 := n1_; have GW260 := n2_; have GE260 := n3_; clear n0_ n1_ n2_ n3_; clear hb hbox hg; have hcz33_0 : w32.cell? ⟨gb260, 0, none⟩ = some (.slice A0_0 l0_0.length c0_0) := kZc BK260 0; have hcz33_1 : w32.cell? ⟨gb260, 1, none⟩ = some (.int .i64 a0_1) := kZc BK260 1; have hcz33_2 : w32.cell? ⟨gb260, 2, none⟩ = some (.slice A0_2 l0_2.length c0_2) := kZc BK260 2; have hcz33_3 : w32.cell? ⟨gb260, 3, none⟩ = some (.int .i64 a0_3) := kZc BK260 3; have hcz33_4 : w32.cell? ⟨gb260, 4, none⟩ = some (.int .i64 a0_4) := kZc BK260 4; have hcz33_5 : w32.cell? ⟨gb260, 5, none⟩ = some (.slice A0_5 l0_5.length c0_5) := kZc BK260 5; have hfz33_0 := blk_frozen BK260.out 0; have hfz33_1 := blk_frozen BK260.out 1; have hfz33_2 := blk_frozen BK260.out 2; have hfz33_3 := blk_frozen BK260.out 3; have hfz33_4 := blk_frozen BK260.out 4; have hfz33_5 := blk_frozen BK260.out 5) | (go_at_call 41; (with_reducible refine (impl_WorkOk.calls _ _ l0_0 a0_1 _ _ l0_2 true _ ?side1 ?side2 ?side3 ?side4 A2.out).mono ?_); (case side1 => exact cZr (Kd.C_below HR0_0.out HB.out)); (case side2 => exact HC0_0.out); (case side3 => exact cZr (Kd.C_below HR0_2.out HB.out)); (case side4 => exact HC0_2.out); rintro e w34 ⟨rfl, hb⟩; have n0_ := kbB BK260 hb; have n1_ := bbB hb; clear BK260; clear HB; have BK260 := n0_; have HB := n1_; clear n0_ n1_; (try clear hb); (try clear hb2); (try clear hk); (try clear hi); have hcz35_0 : w34.cell? ⟨gb260, 0, none⟩ = some (.slice A0_0 l0_0.length c0_0) := kZc BK260 0; have hcz35_1 : w34.cell? ⟨gb260, 1, none⟩ = some (.int .i64 a0_1) := kZc BK260 1; have hcz35_2 : w34.cell? ⟨gb260, 2, none⟩ = some (.slice A0_2 l0_2.length c0_2) := kZc BK260 2; have hcz35_3 : w34.cell? ⟨gb260, 3, none⟩ = some (.int .i64 a0_3) := kZc BK260 3; have hcz35_4 : w34.cell? ⟨gb260, 4, none⟩ = some (.int .i64 a0_4) := kZc BK260 4; have hcz35_5 : w34.cell? ⟨gb260, 5, none⟩ = some (.slice A0_5 l0_5.length c0_5) := kZc BK260 5; have hfz35_0 := blk_frozen BK260.out 0; have hfz35_1 := blk_frozen BK260.out 1; have hfz35_2 := blk_frozen BK260.out 2; have hfz35_3 := blk_frozen BK260.out 3; have hfz35_4 := blk_frozen BK260.out 4; have hfz35_5 := blk_frozen BK260.out 5) | (go_at_call 42; (with_reducible refine (impl_LogOk.calls _ _ l0_5 true _ ?side1 ?side2 A4.out).mono ?_); (case side1 => exact cZr (Kd.C_below HR0_5.out HB.out)); (case side2 => exact HC0_5.out); rintro e w36 ⟨rfl, hb⟩; have n0_ := kbB BK260 hb; have n1_ := bbB hb; clear BK260; clear HB; have BK260 := n0_; have HB := n1_; clear n0_ n1_; (try clear hb); (try clear hb2); (try clear hk); (try clear hi); have hcz37_0 : w36.cell? ⟨gb260, 0, none⟩ = some (.slice A0_0 l0_0.length c0_0) := kZc BK260 0; have hcz37_1 : w36.cell? ⟨gb260, 1, none⟩ = some (.int .i64 a0_1) := kZc BK260 1; have hcz37_2 : w36.cell? ⟨gb260, 2, none⟩ = some (.slice A0_2 l0_2.length c0_2) := kZc BK260 2; have hcz37_3 : w36.cell? ⟨gb260, 3, none⟩ = some (.int .i64 a0_3) := kZc BK260 3; have hcz37_4 : w36.cell? ⟨gb260, 4, none⟩ = some (.int .i64 a0_4) := kZc BK260 4; have hcz37_5 : w36.cell? ⟨gb260, 5, none⟩ = some (.slice A0_5 l0_5.length c0_5) := kZc BK260 5; have hfz37_0 := blk_frozen BK260.out 0; have hfz37_1 := blk_frozen BK260.out 1; have hfz37_2 := blk_frozen BK260.out 2; have hfz37_3 := blk_frozen BK260.out 3; have hfz37_4 := blk_frozen BK260.out 4; have hfz37_5 := blk_frozen BK260.out 5) | (go_at_call 43; (with_reducible refine (impl_isWarmth.calls a0_3 false _ A6.out).mono ?_); rintro e w' ⟨rfl, ⟨nd, rfl⟩⟩; (try first | exact ⟨rfl, _, World.drewN_drewN _ _ _⟩ | exact ⟨rfl, _, Eq.trans (World.drewN_drewN _ _ _) (congrArg (World.drewN _) (Nat.add_assoc _ _ _))⟩))))
    go_ret
    exact ⟨EV, BB⟩
  ·replace c5 := Bool.eq_false_iff.mpr c5
   subst c5
   rw [if_neg nft] at H
   obtain rfl := Option.some.inj H
   go_enter Try.func19, Try.ntmps19
   go_wp2_with (first | ((with_reducible refine gate_dst (N := 1) rfl ?_); (try (refine gate_guard (by rfl) ?_; dsimp only)); refine box_event ?hg (N := 1) ?hd (cs := #[.slice A0_0 l0_0.length c0_0, .int .i64 a0_1, .slice A0_2 l0_2.length c0_2, .int .i64 a0_3, .int .i64 a0_4, .slice A0_5 l0_5.length c0_5]) (t := 37) ?hr ?_; (case hd => rfl); (case hg => rfl); (case hr => exact GR); intro gb260 hg w38 hbox hb; have BK260 := Aside0.mk (hbox); have GW260 := szB hg; have GE260 := szB hg; replace HB := bbB hb; clear hb hbox hg; obtain ⟨hcz39_0, hcz39_1, hcz39_2, hcz39_3, hcz39_4, hcz39_5, hfz39_0, hfz39_1, hfz39_2, hfz39_3, hfz39_4, hfz39_5⟩ := kZc6 BK260) | (go_at_call 41; (with_reducible refine (impl_WorkOk.calls _ _ l0_0 a0_1 _ _ l0_2 true _ ?side1 ?side2 ?side3 ?side4 A2.out).mono ?_); (case side1 => exact cZr (Kd.C_below HR0_0.out HB.out)); (case side2 => exact HC0_0.out); (case side3 => exact cZr (Kd.C_below HR0_2.out HB.out)); (case side4 => exact HC0_2.out); rintro e w40 ⟨rfl, hb⟩; replace BK260 := kbB BK260 hb; replace HB := bbB hb; (try clear hb); obtain ⟨hcz41_0, hcz41_1, hcz41_2, hcz41_3, hcz41_4, hcz41_5, hfz41_0, hfz41_1, hfz41_2, hfz41_3, hfz41_4, hfz41_5⟩ := kZc6 BK260) | (go_at_call 42; (with_reducible refine (impl_LogOk.calls _ _ l0_5 false _ ?side1 ?side2 A4.out).mono ?_); (case side1 => exact cZr (Kd.C_below HR0_5.out HB.out)); (case side2 => exact HC0_5.out); rintro e w42 ⟨rfl, hb⟩; replace BK260 := kbB BK260 hb; replace HB := bbB hb; (try clear hb)))
   repeat (go_quiet (first | ((with_reducible refine gate_dst (N := 1) rfl ?_); (try (refine gate_guard (by rfl) ?_; dsimp only)); refine box_event ?hg (N := 1) ?hd (cs := #[.slice A0_0 l0_0.length c0_0, .int .i64 a0_1, .slice A0_2 l0_2.length c0_2, .int .i64 a0_3, .int .i64 a0_4, .slice A0_5 l0_5.length c0_5]) (t := 37) ?hr ?_; (case hd => rfl); (case hg => rfl); (case hr => exact GR); intro gb260 hg w38 hbox hb; have n0_ := bbB hb; have n1_ := Aside0.mk (hbox); have n2_ := szB hg; have n3_ := szB hg; clear HB; have HB := n0_; have BK260 := n1_; have GW260 := n2_; have GE260 := n3_; clear n0_ n1_ n2_ n3_; clear hb hbox hg; have hcz39_0 : w38.cell? ⟨gb260, 0, none⟩ = some (.slice A0_0 l0_0.length c0_0) := kZc BK260 0; have hcz39_1 : w38.cell? ⟨gb260, 1, none⟩ = some (.int .i64 a0_1) := kZc BK260 1; have hcz39_2 : w38.cell? ⟨gb260, 2, none⟩ = some (.slice A0_2 l0_2.length c0_2) := kZc BK260 2; have hcz39_3 : w38.cell? ⟨gb260, 3, none⟩ = some (.int .i64 a0_3) := kZc BK260 3; have hcz39_4 : w38.cell? ⟨gb260, 4, none⟩ = some (.int .i64 a0_4) := kZc BK260 4; have hcz39_5 : w38.cell? ⟨gb260, 5, none⟩ = some (.slice A0_5 l0_5.length c0_5) := kZc BK260 5; have hfz39_0 := blk_frozen BK260.out 0; have hfz39_1 := blk_frozen BK260.out 1; have hfz39_2 := blk_frozen BK260.out 2; have hfz39_3 := blk_frozen BK260.out 3; have hfz39_4 := blk_frozen BK260.out 4; have hfz39_5 := blk_frozen BK260.out 5) | (go_at_call 41; (with_reducible refine (impl_WorkOk.calls _ _ l0_0 a0_1 _ _ l0_2 true _ ?side1 ?side2 ?side3 ?side4 A2.out).mono ?_); (case side1 => exact cZr (Kd.C_below HR0_0.out HB.out)); (case side2 => exact HC0_0.out); (case side3 => exact cZr (Kd.C_below HR0_2.out HB.out)); (case side4 => exact HC0_2.out); rintro e w40 ⟨rfl, hb⟩; have n0_ := kbB BK260 hb; have n1_ := bbB hb; clear BK260; clear HB; have BK260 := n0_; have HB := n1_; clear n0_ n1_; (try clear hb); (try clear hb2); (try clear hk); (try clear hi); have hcz41_0 : w40.cell? ⟨gb260, 0, none⟩ = some (.slice A0_0 l0_0.length c0_0) := kZc BK260 0; have hcz41_1 : w40.cell? ⟨gb260, 1, none⟩ = some (.int .i64 a0_1) := kZc BK260 1; have hcz41_2 : w40.cell? ⟨gb260, 2, none⟩ = some (.slice A0_2 l0_2.length c0_2) := kZc BK260 2; have hcz41_3 : w40.cell? ⟨gb260, 3, none⟩ = some (.int .i64 a0_3) := kZc BK260 3; have hcz41_4 : w40.cell? ⟨gb260, 4, none⟩ = some (.int .i64 a0_4) := kZc BK260 4; have hcz41_5 : w40.cell? ⟨gb260, 5, none⟩ = some (.slice A0_5 l0_5.length c0_5) := kZc BK260 5; have hfz41_0 := blk_frozen BK260.out 0; have hfz41_1 := blk_frozen BK260.out 1; have hfz41_2 := blk_frozen BK260.out 2; have hfz41_3 := blk_frozen BK260.out 3; have hfz41_4 := blk_frozen BK260.out 4; have hfz41_5 := blk_frozen BK260.out 5) | (go_at_call 42; (with_reducible refine (impl_LogOk.calls _ _ l0_5 false _ ?side1 ?side2 A4.out).mono ?_); (case side1 => exact cZr (Kd.C_below HR0_5.out HB.out)); (case side2 => exact HC0_5.out); rintro e w42 ⟨rfl, hb⟩; have n0_ := kbB BK260 hb; have n1_ := bbB hb; clear BK260; clear HB; have BK260 := n0_; have HB := n1_; clear n0_ n1_; (try clear hb); (try clear hb2); (try clear hk); (try clear hi))); try go_wp2_with (first | ((with_reducible refine gate_dst (N := 1) rfl ?_); (try (refine gate_guard (by rfl) ?_; dsimp only)); refine box_event ?hg (N := 1) ?hd (cs := #[.slice A0_0 l0_0.length c0_0, .int .i64 a0_1, .slice A0_2 l0_2.length c0_2, .int .i64 a0_3, .int .i64 a0_4, .slice A0_5 l0_5.length c0_5]) (t := 37) ?hr ?_; (case hd => rfl); (case hg => rfl); (case hr => exact GR); intro gb260 hg w38 hbox hb; have n0_ := bbB hb; have n1_ := Aside0.mk (hbox); have n2_ := szB hg; have n3_ := szB hg; clear HB; have HB := n0_; have BK260 := n1_; have GW260 := n2_; have GE260 := n3_; clear n0_ n1_ n2_ n3_; clear hb hbox hg; have hcz39_0 : w38.cell? ⟨gb260, 0, none⟩ = some (.slice A0_0 l0_0.length c0_0) := kZc BK260 0; have hcz39_1 : w38.cell? ⟨gb260, 1, none⟩ = some (.int .i64 a0_1) := kZc BK260 1; have hcz39_2 : w38.cell? ⟨gb260, 2, none⟩ = some (.slice A0_2 l0_2.length c0_2) := kZc BK260 2; have hcz39_3 : w38.cell? ⟨gb260, 3, none⟩ = some (.int .i64 a0_3) := kZc BK260 3; have hcz39_4 : w38.cell? ⟨gb260, 4, none⟩ = some (.int .i64 a0_4) := kZc BK260 4; have hcz39_5 : w38.cell? ⟨gb260, 5, none⟩ = some (.slice A0_5 l0_5.length c0_5) := kZc BK260 5; have hfz39_0 := blk_frozen BK260.out 0; have hfz39_1 := blk_frozen BK260.out 1; have hfz39_2 := blk_frozen BK260.out 2; have hfz39_3 := blk_frozen BK260.out 3; have hfz39_4 := blk_frozen BK260.out 4; have hfz39_5 := blk_frozen BK260.out 5) | (go_at_call 41; (with_reducible refine (impl_WorkOk.calls _ _ l0_0 a0_1 _ _ l0_2 true _ ?side1 ?side2 ?side3 ?side4 A2.out).mono ?_); (case side1 => exact cZr (Kd.C_below HR0_0.out HB.out)); (case side2 => exact HC0_0.out); (case side3 => exact cZr (Kd.C_below HR0_2.out HB.out)); (case side4 => exact HC0_2.out); rintro e w40 ⟨rfl, hb⟩; have n0_ := kbB BK260 hb; have n1_ := bbB hb; clear BK260; clear HB; have BK260 := n0_; have HB := n1_; clear n0_ n1_; (try clear hb); (try clear hb2); (try clear hk); (try clear hi); have hcz41_0 : w40.cell? ⟨gb260, 0, none⟩ = some (.slice A0_0 l0_0.length c0_0) := kZc BK260 0; have hcz41_1 : w40.cell? ⟨gb260, 1, none⟩ = some (.int .i64 a0_1) := kZc BK260 1; have hcz41_2 : w40.cell? ⟨gb260, 2, none⟩ = some (.slice A0_2 l0_2.length c0_2) := kZc BK260 2; have hcz41_3 : w40.cell? ⟨gb260, 3, none⟩ = some (.int .i64 a0_3) := kZc BK260 3; have hcz41_4 : w40.cell? ⟨gb260, 4, none⟩ = some (.int .i64 a0_4) := kZc BK260 4; have hcz41_5 : w40.cell? ⟨gb260, 5, none⟩ = some (.slice A0_5 l0_5.length c0_5) := kZc BK260 5; have hfz41_0 := blk_frozen BK260.out 0; have hfz41_1 := blk_frozen BK260.out 1; have hfz41_2 := blk_frozen BK260.out 2; have hfz41_3 := blk_frozen BK260.out 3; have hfz41_4 := blk_frozen BK260.out 4; have hfz41_5 := blk_frozen BK260.out 5) | (go_at_call 42; (with_reducible refine (impl_LogOk.calls _ _ l0_5 false _ ?side1 ?side2 A4.out).mono ?_); (case side1 => exact cZr (Kd.C_below HR0_5.out HB.out)); (case side2 => exact HC0_5.out); rintro e w42 ⟨rfl, hb⟩; have n0_ := kbB BK260 hb; have n1_ := bbB hb; clear BK260; clear HB; have BK260 := n0_; have HB := n1_; clear n0_ n1_; (try clear hb); (try clear hb2); (try clear hk); (try clear hi))))
   go_ret
   exact ⟨EV, BB⟩
 ·replace c3 := Bool.eq_false_iff.mpr c3
  subst c3
  rw [if_neg nft] at H
  obtain rfl := Option.some.inj H
  go_enter Try.func19, Try.ntmps19
  go_wp2_with (first | ((with_reducible refine gate_dst (N := 1) rfl ?_); (try (refine gate_guard (by rfl) ?_; dsimp only)); refine box_event ?hg (N := 1) ?hd (cs := #[.slice A0_0 l0_0.length c0_0, .int .i64 a0_1, .slice A0_2 l0_2.length c0_2, .int .i64 a0_3, .int .i64 a0_4, .slice A0_5 l0_5.length c0_5]) (t := 37) ?hr ?_; (case hd => rfl); (case hg => rfl); (case hr => exact GR); intro gb260 hg w43 hbox hb; have BK260 := Aside0.mk (hbox); have GW260 := szB hg; have GE260 := szB hg; replace HB := bbB hb; clear hb hbox hg; obtain ⟨hcz44_0, hcz44_1, hcz44_2, hcz44_3, hcz44_4, hcz44_5, hfz44_0, hfz44_1, hfz44_2, hfz44_3, hfz44_4, hfz44_5⟩ := kZc6 BK260) | (go_at_call 41; (with_reducible refine (impl_WorkOk.calls _ _ l0_0 a0_1 _ _ l0_2 false _ ?side1 ?side2 ?side3 ?side4 A2.out).mono ?_); (case side1 => exact cZr (Kd.C_below HR0_0.out HB.out)); (case side2 => exact HC0_0.out); (case side3 => exact cZr (Kd.C_below HR0_2.out HB.out)); (case side4 => exact HC0_2.out); rintro e w45 ⟨rfl, hb⟩; replace BK260 := kbB BK260 hb; replace HB := bbB hb; (try clear hb)))
  repeat (go_quiet (first | ((with_reducible refine gate_dst (N := 1) rfl ?_); (try (refine gate_guard (by rfl) ?_; dsimp only)); refine box_event ?hg (N := 1) ?hd (cs := #[.slice A0_0 l0_0.length c0_0, .int .i64 a0_1, .slice A0_2 l0_2.length c0_2, .int .i64 a0_3, .int .i64 a0_4, .slice A0_5 l0_5.length c0_5]) (t := 37) ?hr ?_; (case hd => rfl); (case hg => rfl); (case hr => exact GR); intro gb260 hg w43 hbox hb; have n0_ := bbB hb; have n1_ := Aside0.mk (hbox); have n2_ := szB hg; have n3_ := szB hg; clear HB; have HB := n0_; have BK260 := n1_; have GW260 := n2_; have GE260 := n3_; clear n0_ n1_ n2_ n3_; clear hb hbox hg; have hcz44_0 : w43.cell? ⟨gb260, 0, none⟩ = some (.slice A0_0 l0_0.length c0_0) := kZc BK260 0; have hcz44_1 : w43.cell? ⟨gb260, 1, none⟩ = some (.int .i64 a0_1) := kZc BK260 1; have hcz44_2 : w43.cell? ⟨gb260, 2, none⟩ = some (.slice A0_2 l0_2.length c0_2) := kZc BK260 2; have hcz44_3 : w43.cell? ⟨gb260, 3, none⟩ = some (.int .i64 a0_3) := kZc BK260 3; have hcz44_4 : w43.cell? ⟨gb260, 4, none⟩ = some (.int .i64 a0_4) := kZc BK260 4; have hcz44_5 : w43.cell? ⟨gb260, 5, none⟩ = some (.slice A0_5 l0_5.length c0_5) := kZc BK260 5; have hfz44_0 := blk_frozen BK260.out 0; have hfz44_1 := blk_frozen BK260.out 1; have hfz44_2 := blk_frozen BK260.out 2; have hfz44_3 := blk_frozen BK260.out 3; have hfz44_4 := blk_frozen BK260.out 4; have hfz44_5 := blk_frozen BK260.out 5) | (go_at_call 41; (with_reducible refine (impl_WorkOk.calls _ _ l0_0 a0_1 _ _ l0_2 false _ ?side1 ?side2 ?side3 ?side4 A2.out).mono ?_); (case side1 => exact cZr (Kd.C_below HR0_0.out HB.out)); (case side2 => exact HC0_0.out); (case side3 => exact cZr (Kd.C_below HR0_2.out HB.out)); (case side4 => exact HC0_2.out); rintro e w45 ⟨rfl, hb⟩; have n0_ := kbB BK260 hb; have n1_ := bbB hb; clear BK260; clear HB; have BK260 := n0_; have HB := n1_; clear n0_ n1_; (try clear hb); (try clear hb2); (try clear hk); (try clear hi))); try go_wp2_with (first | ((with_reducible refine gate_dst (N := 1) rfl ?_); (try (refine gate_guard (by rfl) ?_; dsimp only)); refine box_event ?hg (N := 1) ?hd (cs := #[.slice A0_0 l0_0.length c0_0, .int .i64 a0_1, .slice A0_2 l0_2.length c0_2, .int .i64 a0_3, .int .i64 a0_4, .slice A0_5 l0_5.length c0_5]) (t := 37) ?hr ?_; (case hd => rfl); (case hg => rfl); (case hr => exact GR); intro gb260 hg w43 hbox hb; have n0_ := bbB hb; have n1_ := Aside0.mk (hbox); have n2_ := szB hg; have n3_ := szB hg; clear HB; have HB := n0_; have BK260 := n1_; have GW260 := n2_; have GE260 := n3_; clear n0_ n1_ n2_ n3_; clear hb hbox hg; have hcz44_0 : w43.cell? ⟨gb260, 0, none⟩ = some (.slice A0_0 l0_0.length c0_0) := kZc BK260 0; have hcz44_1 : w43.cell? ⟨gb260, 1, none⟩ = some (.int .i64 a0_1) := kZc BK260 1; have hcz44_2 : w43.cell? ⟨gb260, 2, none⟩ = some (.slice A0_2 l0_2.length c0_2) := kZc BK260 2; have hcz44_3 : w43.cell? ⟨gb260, 3, none⟩ = some (.int .i64 a0_3) := kZc BK260 3; have hcz44_4 : w43.cell? ⟨gb260, 4, none⟩ = some (.int .i64 a0_4) := kZc BK260 4; have hcz44_5 : w43.cell? ⟨gb260, 5, none⟩ = some (.slice A0_5 l0_5.length c0_5) := kZc BK260 5; have hfz44_0 := blk_frozen BK260.out 0; have hfz44_1 := blk_frozen BK260.out 1; have hfz44_2 := blk_frozen BK260.out 2; have hfz44_3 := blk_frozen BK260.out 3; have hfz44_4 := blk_frozen BK260.out 4; have hfz44_5 := blk_frozen BK260.out 5) | (go_at_call 41; (with_reducible refine (impl_WorkOk.calls _ _ l0_0 a0_1 _ _ l0_2 false _ ?side1 ?side2 ?side3 ?side4 A2.out).mono ?_); (case side1 => exact cZr (Kd.C_below HR0_0.out HB.out)); (case side2 => exact HC0_0.out); (case side3 => exact cZr (Kd.C_below HR0_2.out HB.out)); (case side4 => exact HC0_2.out); rintro e w45 ⟨rfl, hb⟩; have n0_ := kbB BK260 hb; have n1_ := bbB hb; clear BK260; clear HB; have BK260 := n0_; have HB := n1_; clear n0_ n1_; (try clear hb); (try clear hb2); (try clear hk); (try clear hi))))
  go_ret
  exact ⟨EV, BB⟩
end Go.Proofs.Ytpbhoembdoofiaa.B
namespace Go.Proofs.Ytpbhoembdoofiaa.B
open Go.RowKit Go.Proofs.YtpbhoembdoofiaaW.PrintWords Go.Proofs.YtpbhoembdoofiaaW.PrintLast Go.Proofs.YtpbhoembdoofiaaW.PrintMore Go.Proofs.YtpbhoembdoofiaaW.Zc
set_option linter.unusedVariables false
set_option linter.unusedSimpArgs false
def impl_copyPlan.f (l0 : List (S100)) : Option ((List (S100))) := (some (([] : List (S100)) : List (S100))).bind fun y266 => (if y266.length + l0.length < 4398046511104 then (some (y266 ++ l0)) else (none))
set_option maxHeartbeats 8000000 in
set_option maxRecDepth 100000 in
theorem impl_copyPlan.calls (A0 : Option Addr) (c0 : Nat) (l0 : List (S100)) (r : List (S100)) (w : World) (hr0 : Kd.C k100 w A0 l0.length l0) (hc0 : l0.length ≤ c0) (h : impl_copyPlan.f l0 = some r) :
    Calls Try.prog 83 #[.slice A0 l0.length c0] w fun e w' => ∃ v0_ : Value, e = .returned (v0_) ∧ Kd.R k100 100 w' w.heap.size (fun _ => True) v0_ r ∧ Below w.heap.size w w' := by
 have HR0 := Aside0.mk hr0
 have HC0 := Aside0.mk hc0
 clear hr0 hc0
 have HB := Aside0.mk (Below.refl w.heap.size w)
 have H : ((some (([] : List (S100)) : List (S100))).bind fun y266 => (if y266.length + l0.length < 4398046511104 then (some (y266 ++ l0)) else (none))) = some r := h
 clear h
 obtain ⟨y266, Ny266⟩ : ∃ y_ : List (S100), Aside0 (y_ = (([] : List (S100)))) := ⟨_, ⟨rfl⟩⟩
 rw [← Ny266.out] at H
 (try rw [Option.bind_some] at H)
 by_cases c2 : y266.length + l0.length < 4398046511104
 ·rw [if_pos c2] at H
  have LMc2 := Aside0.mk c2
  clear c2
  obtain ⟨y269, Ny269⟩ : ∃ y_ : List (S100), Aside0 (y_ = (y266 ++ l0)) := ⟨_, ⟨rfl⟩⟩
  rw [← Ny269.out] at H
  (try rw [Option.bind_some] at H)
  obtain rfl := Option.some.inj H
  go_enter Try.func83, Try.ntmps83
  go_wp2_with (first | ((with_reducible refine gate_dst (N := 3) rfl ?_); refine Kd.R_lit k100 _ 100 ?hg (N := 3) ?hd (xs := ([] : List (S100))) (inner := []) (ok := fun _ => True) (okp := fun _ => True) ?hr ?hp (fun _ hk => hk) trivial (Below.refl _ _) (Nat.le_refl _) (by simp) ?_; (case hd => rfl); (case hg => rfl); (case hr => exact GR); (case hp => exact (Reps.none _ _)); intro v267 w3 ho4 hb hg_ hnew_; clear hg_ hnew_; (first | rw [← Ny266.out] at ho4 | (simp only [Int.reduceToNat] at ho4; rw [← Ny266.out] at ho4)); have HO268 := rlB ho4; replace HB := bbB hb; clear hb ho4) | ((with_reducible refine gate_builtin (b := .append) (xs := #[.tmp 3, .tmp 4]) rfl ?_); at_builtin; refine Kd.R_append_rows k100 (w0 := w) w.heap.size rfl (.tmp 3) (.tmp 4) 32 100 (.agg #[(.int .i64 0), (.int .i64 0), (.int .i64 0), (.int .i64 0)]) 32 rfl Try.underlying32 info100 rfl (by decide) (by omega) v267 y266 l0 _ _ _ (fun _ => True) (fun _ => False) rfl rfl ?aO ?aR (fun _ _ h => h) (fun _ h => h.elim) ?aF ?aB ?aS ?aL ?_; (case aR => exact cZr (Kd.C_below HR0.out HB.out)); (case aB => exact BB); (case aF => exact (fun _ _ => trivial)); (case aO => exact (rZr HO268)); (case aS => exact (below_size BB)); (case aL => have := LMc2.out; omega); intro v270 w5 ho hb hg hat; rw [← Ny269.out] at ho; replace HB := Aside0.mk (hb); have HO271 := Aside0.mk (ho); clear HO268; clear ho hb hg hat))
  go_ret
  exact ⟨_, EV, by (with_reducible repeat (first | apply Kd.R_alloc | apply Kd.R_drewN | apply Kd.R_drew)); exact HO271.out, BB⟩
 ·rw [if_neg c2] at H
  exact absurd H (by simp)
end Go.Proofs.Ytpbhoembdoofiaa.B
namespace Go.Proofs.Ytpbhoembdoofiaa.B
open Go.RowKit Go.Proofs.YtpbhoembdoofiaaW.PrintWords Go.Proofs.YtpbhoembdoofiaaW.PrintLast Go.Proofs.YtpbhoembdoofiaaW.PrintMore Go.Proofs.YtpbhoembdoofiaaW.Zc
set_option linter.unusedVariables false
set_option linter.unusedSimpArgs false
def impl_copyWork.f (l0_0 : List (S100)) (a0_1 : Int) (l0_2 : List Int) : Option ((List (S100)) × Int × List Int) := (impl_copyPlan.f l0_0).bind fun t274 => ((some (([] : List Int) : List Int)).bind fun y277 => (if y277.length + l0_2.length < 17592186044416 then (some (t274, a0_1, (y277 ++ l0_2))) else (none)))
def impl_copyWork.T1 : Bool × List (List Nat × List Nat) := (true, [([], []), ([0], [0]), ([1], [1]), ([], []), ([3], [3]), ([], []), ([], []), ([6], [6]), ([5, 7, 2], [5, 7]), ([2, 4, 8], [2, 4, 8]), ([9, 8, 0, 1, 2, 3, 4, 5, 6, 7, 8, 9], [9])])
def impl_copyWork.B1 : List Nat := [0, 1, 3, 0, 8, 0, 0, 64, 231, 511, 1023]
theorem impl_copyWork.tab1 : rtab .any (opsOf Try.f57 1) = impl_copyWork.T1 := by kernel_rfl
theorem impl_copyWork.bits1 : waitsOk impl_copyWork.T1.2 impl_copyWork.B1 = true := by kernel_rfl
set_option maxHeartbeats 8000000 in
set_option maxRecDepth 100000 in
theorem impl_copyWork.calls (A0_0 : Option Addr) (c0_0 : Nat) (l0_0 : List (S100)) (a0_1 : Int) (A0_2 : Option Addr) (c0_2 : Nat) (l0_2 : List Int) (r1 : List (S100)) (r2 : Int) (r3 : List Int) (w : World) (hr0_0 : Kd.C k100 w A0_0 l0_0.length l0_0) (hc0_0 : l0_0.length ≤ c0_0) (hr0_2 : Kd.C (Kd.int .i64) w A0_2 l0_2.length l0_2) (hc0_2 : l0_2.length ≤ c0_2) (h : impl_copyWork.f l0_0 a0_1 l0_2 = some (r1, r2, r3)) :
    Calls Try.prog 57 #[.agg #[.slice A0_0 l0_0.length c0_0, .int .i64 a0_1, .slice A0_2 l0_2.length c0_2]] w fun e w' => ∃ v0_ v2_ : Value, e = .returned (.agg #[v0_, .int .i64 r2, v2_]) ∧ Kd.R k100 100 w' w.heap.size (fun _ => True) v0_ r1 ∧ Kd.R (Kd.int .i64) 3 w' w.heap.size (fun _ => True) v2_ r3 ∧ Below w.heap.size w w' := by
 have hu34 := Try.underlying34
 have HR0_0 := Aside0.mk hr0_0
 have HC0_0 := Aside0.mk hc0_0
 clear hr0_0 hc0_0
 have HR0_2 := Aside0.mk hr0_2
 have HC0_2 := Aside0.mk hc0_2
 clear hr0_2 hc0_2
 have HB := Aside0.mk (Below.refl w.heap.size w)
 have H : ((impl_copyPlan.f l0_0).bind fun t274 => ((some (([] : List Int) : List Int)).bind fun y277 => (if y277.length + l0_2.length < 17592186044416 then (some (t274, a0_1, (y277 ++ l0_2))) else (none)))) = some (r1, r2, r3) := h
 clear h
 obtain ⟨t274, A2, H⟩ := bsI H
 obtain ⟨y277, Ny277⟩ : ∃ y_ : List Int, Aside0 (y_ = (([] : List Int))) := ⟨_, ⟨rfl⟩⟩
 rw [← Ny277.out] at H
 (try rw [Option.bind_some] at H)
 by_cases c3 : y277.length + l0_2.length < 17592186044416
 ·rw [if_pos c3] at H
  have LMc3 := Aside0.mk c3
  clear c3
  obtain ⟨y280, Ny280⟩ : ∃ y_ : List Int, Aside0 (y_ = (y277 ++ l0_2)) := ⟨_, ⟨rfl⟩⟩
  rw [← Ny280.out] at H
  (try rw [Option.bind_some] at H)
  simp only [Option.some.injEq, Prod.mk.injEq] at H
  obtain ⟨rfl, rfl, rfl⟩ := H
  go_enter Try.func57, Try.ntmps57
  try go_wp2_with (first | ((with_reducible refine bZx 1 (h := ?_)); refine bxE #[.slice A0_0 l0_0.length c0_0, .int .i64 a0_1, .slice A0_2 l0_2.length c0_2] 34 ?_; intro gb272 hg w4 hbox hb; have BK272 := Aside0.mk (hbox); have GE272 := szB hg; replace HB := bbB hb; clear hb hbox hg) | ((with_reducible refine bZx 2 (h := ?_)); refine bxE #[.slice none 0 0, .int .i64 0, .slice none 0 0] 34 ?_; intro gb273 hg w5 hbox hb; have BK273 := Aside0.mk (hbox); have GE273 := szB hg; replace HB := bbB hb; have NB272_273 := nlB BK272 hg; have NB273_272 := ngB BK272 hg; replace BK272 := kbB BK272 hb; clear hb hbox hg))
  replace BK272 := Aside0.mk (blk_drew BK272.out)
  replace BK273 := Aside0.mk (blk_drew BK273.out)
  replace HB := Aside0.mk (below_drew1 HB.out)
  refine start_ (n := 11) (S := fun w' => w'.cell? ⟨gb272, 0, none⟩ = some (.slice A0_0 l0_0.length c0_0) ∧ w'.cell? ⟨gb272, 1, none⟩ = some (.int .i64 a0_1) ∧ w'.cell? ⟨gb272, 2, none⟩ = some (.slice A0_2 l0_2.length c0_2)) (ds := []) (Array.replicate 11 false) (by kernel_rfl) rfl rfl ⟨kZc BK272 0, kZc BK272 1, kZc BK272 2⟩ (fun hHeld => ?_); refine with_tabW impl_copyWork.tab1 impl_copyWork.bits1 (fun HT_ HW_ => ?_)
  generalize w5.drew = w6 at BK272 BK273 HB hHeld ⊢
  refine pZu 0 3 HT_ (h := ?_)
  refine pZu 3 6 HT_ (h := ?_)
  refine pZu 6 9 HT_ (h := ?_)
  refine tZk 1 4 HT_ HW_ hHeld (h := ?_)
  refine tZk 4 7 HT_ HW_ hHeld (h := ?_)
  refine tZk 7 10 HT_ HW_ hHeld (h := ?_)
  refine join_ (σ := Value × Value) 3 #[true, true, true, true, true, true, true, true, false, false, false] (fun s_ => [(5, s_.1), (8, s_.2)]) (fun s_ w' => (w'.cell? ⟨gb272, 0, none⟩ = some (.slice A0_0 l0_0.length c0_0) ∧ w'.cell? ⟨gb272, 1, none⟩ = some (.int .i64 a0_1) ∧ w'.cell? ⟨gb272, 2, none⟩ = some (.slice A0_2 l0_2.length c0_2)) ∧ (Kd.R k100 100 w' w.heap.size (fun _ => True) s_.1 t274) ∧ (Kd.R (Kd.int .i64) 3 w' w.heap.size (fun _ => True) s_.2 y277) ∧ (w'.heap[gb272]? = some (.cells #[.slice A0_0 l0_0.length c0_0, .int .i64 a0_1, .slice A0_2 l0_2.length c0_2] 34 (0, 0))) ∧ (w'.heap[gb273]? = some (.cells #[.slice none 0 0, .int .i64 0, .slice none 0 0] 34 (0, 0))) ∧ (Below w.heap.size w w')) ?_ ?_
  rotate_left
  ·intro hCont
   refine two_ (i := 2) (j := 5) (Ni := some 5) (Nj := some 8) #[true, true, true, true, true, false, true, true, false, false, false] #[true, true, false, true, true, true, true, true, false, false, false] rfl rfl rfl rfl (two_of HT_.out (by kernel_rfl)) (by decide) (by decide) (fun K hK => ?_) (fun K hK => ?_)
   ·skip
    refine goes_ Try.func83 (by kernel_rfl) rfl #[.slice A0_0 l0_0.length c0_0] (by rfl) rfl rfl MP ?_
    with_reducible refine (impl_copyPlan.calls _ _ l0_0 t274 _ ?side1 ?side2 A2.out).mono ?_
    (case side1 => exact cZr (Kd.C_below HR0_0.out HB.out))
    (case side2 => exact HC0_0.out)
    rintro e w7 ⟨v275, rfl, ho0, hb⟩
    refine ⟨_, rfl, ?_⟩
    have HO276 := rlB ho0
    replace BK272 := kbB BK272 hb
    replace BK273 := kbB BK273 hb
    replace HB := bbB hb
    (try clear hb)
    (try clear ho0)
    refine hK.out _ _ ⟨kZc BK272 0, kZc BK272 1, kZc BK272 2⟩ (fun hHeld => ?_)
    clear hK K
    refine nZm (h := ?_)
    refine oZn 5 (some 8) HT_ (h := fun K hK => ?_)
    refine Kd.R_lit_step (Kd.int .i64) _ 3 ?hg (N := 8) ?hd (xs := ([] : List Int)) (inner := []) (ok := fun _ => True) (okp := fun _ => True) ?hr ?hp (fun _ hk => hk) trivial (Below.refl _ _) (Nat.le_refl _) (by simp) ?_; (case hd => rfl); (case hg => rfl); (case hr => exact GR); (case hp => exact (Reps.none _ _))
    intro v278 w8 ho9 hb hg_ hnew_
    clear hg_ hnew_
    (first | rw [← Ny277.out] at ho9 | (simp only [Int.reduceToNat] at ho9; rw [← Ny277.out] at ho9))
    replace HO276 := rbB HO276 hb
    have HO279 := rlB ho9
    replace BK272 := kbB BK272 hb
    replace BK273 := kbB BK273 hb
    replace HB := bbB hb
    clear hb ho9
    refine hK.out _ _ ⟨kZc BK272 0, kZc BK272 1, kZc BK272 2⟩ (fun hHeld => ?_)
    clear hK K
    refine nZm (h := ?_)
    exact nR (hCont (v275, v278) _ ⟨hHeld, (rZr HO276), (rZr HO279), (kZb BK272), (kZb BK273), BB⟩)
   ·skip
    refine Kd.R_lit_step (Kd.int .i64) _ 3 ?hg (N := 8) ?hd (xs := ([] : List Int)) (inner := []) (ok := fun _ => True) (okp := fun _ => True) ?hr ?hp (fun _ hk => hk) trivial (Below.refl _ _) (Nat.le_refl _) (by simp) ?_; (case hd => rfl); (case hg => rfl); (case hr => exact GR); (case hp => exact (Reps.none _ _))
    intro v278 w7 ho8 hb hg_ hnew_
    clear hg_ hnew_
    (first | rw [← Ny277.out] at ho8 | (simp only [Int.reduceToNat] at ho8; rw [← Ny277.out] at ho8))
    have HO279 := rlB ho8
    replace BK272 := kbB BK272 hb
    replace BK273 := kbB BK273 hb
    replace HB := bbB hb
    clear hb ho8
    refine hK.out _ _ ⟨kZc BK272 0, kZc BK272 1, kZc BK272 2⟩ (fun hHeld => ?_)
    clear hK K
    refine nZm (h := ?_)
    refine oZn 2 (some 5) HT_ (h := fun K hK => ?_)
    refine goes_ Try.func83 (by kernel_rfl) rfl #[.slice A0_0 l0_0.length c0_0] (by rfl) rfl rfl MP ?_
    with_reducible refine (impl_copyPlan.calls _ _ l0_0 t274 _ ?side1 ?side2 A2.out).mono ?_
    (case side1 => exact cZr (Kd.C_below HR0_0.out HB.out))
    (case side2 => exact HC0_0.out)
    rintro e w9 ⟨v275, rfl, ho0, hb⟩
    refine ⟨_, rfl, ?_⟩
    replace HO279 := rbB HO279 hb
    have HO276 := rlB ho0
    replace BK272 := kbB BK272 hb
    replace BK273 := kbB BK273 hb
    replace HB := bbB hb
    (try clear hb)
    (try clear ho0)
    refine hK.out _ _ ⟨kZc BK272 0, kZc BK272 1, kZc BK272 2⟩ (fun hHeld => ?_)
    clear hK K
    refine nZm (h := ?_)
    exact nR (hCont (v275, v278) _ ⟨hHeld, (rZr HO276), (rZr HO279), (kZb BK272), (kZb BK273), BB⟩)
  rintro ⟨v275, v278⟩ w10 ⟨hS_, h0_, h1_, h2_, h3_, h4_⟩
  have n0_ : Aside0 (Kd.R k100 100 w10 w.heap.size (fun _ => True) v275 t274) := ⟨h0_⟩
  have n1_ : Aside0 (Kd.R (Kd.int .i64) 3 w10 w.heap.size (fun _ => True) v278 y277) := ⟨h1_⟩
  have n2_ : Aside0 (w10.heap[gb272]? = some (.cells #[.slice A0_0 l0_0.length c0_0, .int .i64 a0_1, .slice A0_2 l0_2.length c0_2] 34 (0, 0))) := ⟨h2_⟩
  have n3_ : Aside0 (w10.heap[gb273]? = some (.cells #[.slice none 0 0, .int .i64 0, .slice none 0 0] 34 (0, 0))) := ⟨h3_⟩
  have n4_ : Aside0 (Below w.heap.size w w10) := ⟨h4_⟩
  clear BK272
  clear BK273
  clear HB
  clear h0_ h1_ h2_ h3_ h4_
  have HO276 := n0_
  have HO279 := n1_
  have BK272 := n2_
  have BK273 := n3_
  have HB := n4_
  clear n0_ n1_ n2_ n3_ n4_
  have hHeld : w10.cell? ⟨gb272, 0, none⟩ = some (.slice A0_0 l0_0.length c0_0) ∧ w10.cell? ⟨gb272, 1, none⟩ = some (.int .i64 a0_1) ∧ w10.cell? ⟨gb272, 2, none⟩ = some (.slice A0_2 l0_2.length c0_2) := hS_
  refine norm_ (a' := ?_) ?_ ?_
  rotate_left
  ·simp only [putAll, Act.put, List.setIfInBounds_toArray, List.set_cons_zero, List.set_cons_succ]
   rfl
  refine oZn 8 (some 11) HT_ (h := fun K hK => ?_)
  refine Kd.R_append_rows_step (Kd.int .i64) (w0 := w) w.heap.size (by rfl) (.tmp 8) (.tmp 10) 23 3 (.int .i64 0) 8 rfl Try.underlying23 info3 rfl (by decide) (by omega) v278 y277 l0_2 _ _ _ (fun _ => True) (fun _ => False) rfl rfl ?aO ?aR (fun _ _ h => h) (fun _ h => h.elim) ?aF ?aB ?aS ?aL ?_
  (case aR => exact cZr (Kd.C_below HR0_2.out HB.out))
  (case aB => exact BB)
  (case aF => exact (fun _ _ => trivial))
  (case aO => exact (rZr HO279))
  (case aS => exact (below_size BB))
  (case aL => have := LMc3.out; omega)
  intro v281 w11 ho hb hg hat
  rw [← Ny280.out] at ho
  replace BK272 := Aside0.mk (blk_grown (g := gb272) (o := .cells #[.slice A0_0 l0_0.length c0_0, .int .i64 a0_1, .slice A0_2 l0_2.length c0_2] 34 (0, 0)) (kZb BK272) hg (Kd.R_ne HO279.out BK272.out (by decide)))
  replace BK273 := Aside0.mk (blk_grown (g := gb273) (o := .cells #[.slice none 0 0, .int .i64 0, .slice none 0 0] 34 (0, 0)) (kZb BK273) hg (Kd.R_ne HO279.out BK273.out (by decide)))
  replace HO276 := Aside0.mk (Kd.R_over' (rZr HO276) (Kd.R_typed (rZr HO279)) (by decide) hg)
  replace HB := Aside0.mk (hb)
  have HO282 := Aside0.mk (ho)
  clear HO279
  clear ho hb hg hat
  obtain ⟨Ao12, co12, eo12⟩ := Kd.R_slice HO282.out
  (first | subst eo12 | (obtain ⟨f4_, f5_⟩ := slI eo12; subst f4_; subst f5_))
  obtain ⟨Ao13, co13, eo13⟩ := Kd.R_slice HO276.out
  (first | subst eo13 | (obtain ⟨f4_, f5_⟩ := slI eo13; subst f4_; subst f5_))
  refine hK.out _ _ ⟨kZc BK272 0, kZc BK272 1, kZc BK272 2⟩ (fun hHeld => ?_)
  clear hK K
  refine nZm (h := ?_)
  refine pZu 9 12 HT_ (h := ?_)
  refine oZn 10 none HT_ (h := fun K hK => ?_)
  have hs14 := kZc BK273 0
  have hfs14 := blk_frozen BK273.out 0
  have hns14_0 := NB272_273.out
  have hms14_0 := NB273_272.out
  have hs15 := kZc BK273 1
  have hfs15 := blk_frozen BK273.out 1
  have hns15_0 := NB272_273.out
  have hms15_0 := NB273_272.out
  have hs16 := kZc BK273 2
  have hfs16 := blk_frozen BK273.out 2
  have hns16_0 := NB272_273.out
  have hms16_0 := NB273_272.out
  refine skip_ (w1 := ?_) (by rfl) rfl ?_ ?_
  rotate_left
  ·go_simp
   rfl
  refine hK.out _ _ ⟨((cell_far (p := ⟨gb273, _, none⟩) NB272_273.out _).trans (((cell_far (p := ⟨gb273, _, none⟩) NB272_273.out _).trans (((cell_far (p := ⟨gb273, _, none⟩) NB272_273.out _).trans (hHeld.1)))))), ((cell_far (p := ⟨gb273, _, none⟩) NB272_273.out _).trans (((cell_far (p := ⟨gb273, _, none⟩) NB272_273.out _).trans (((cell_far (p := ⟨gb273, _, none⟩) NB272_273.out _).trans (hHeld.2.1)))))), ((cell_far (p := ⟨gb273, _, none⟩) NB272_273.out _).trans (((cell_far (p := ⟨gb273, _, none⟩) NB272_273.out _).trans (((cell_far (p := ⟨gb273, _, none⟩) NB272_273.out _).trans (hHeld.2.2))))))⟩ (fun hHeld => ?_)
  clear hK K
  refine done_ (done_of HT_.out (by kernel_rfl)) ?_
  try go_wp2
  refine bodyPost_ret (results_cell_row rfl _ _ gb273 34 #[.slice Ao13 t274.length co13, .int .i64 a0_1, .slice Ao12 y280.length co12] (0, 0) _ rfl (kZq BK273) Try.underlying34 rfl (by kernel_rfl)) rfl ?_
  exact ⟨_, _, EV, rZz HO276, rZz HO282, BB⟩
 ·rw [if_neg c3] at H
  exact absurd H (by simp)
end Go.Proofs.Ytpbhoembdoofiaa.B
namespace Go.Proofs.Ytpbhoembdoofiaa.B
open Go.RowKit Go.Proofs.YtpbhoembdoofiaaW.PrintWords Go.Proofs.YtpbhoembdoofiaaW.PrintLast Go.Proofs.YtpbhoembdoofiaaW.PrintMore Go.Proofs.YtpbhoembdoofiaaW.Zc
set_option linter.unusedVariables false
set_option linter.unusedSimpArgs false
def impl_copyLog.f (l0 : List (S61)) : Option ((List (S61))) := (some (([] : List (S61)) : List (S61))).bind fun y283 => (if y283.length + l0.length < 4398046511104 then (some (y283 ++ l0)) else (none))
set_option maxHeartbeats 8000000 in
set_option maxRecDepth 100000 in
theorem impl_copyLog.calls (A0 : Option Addr) (c0 : Nat) (l0 : List (S61)) (r : List (S61)) (w : World) (hr0 : Kd.C k61 w A0 l0.length l0) (hc0 : l0.length ≤ c0) (h : impl_copyLog.f l0 = some r) :
    Calls Try.prog 58 #[.slice A0 l0.length c0] w fun e w' => ∃ v0_ : Value, e = .returned (v0_) ∧ Kd.R k61 61 w' w.heap.size (fun _ => True) v0_ r ∧ Below w.heap.size w w' := by
 have HR0 := Aside0.mk hr0
 have HC0 := Aside0.mk hc0
 clear hr0 hc0
 have HB := Aside0.mk (Below.refl w.heap.size w)
 have H : ((some (([] : List (S61)) : List (S61))).bind fun y283 => (if y283.length + l0.length < 4398046511104 then (some (y283 ++ l0)) else (none))) = some r := h
 clear h
 obtain ⟨y283, Ny283⟩ : ∃ y_ : List (S61), Aside0 (y_ = (([] : List (S61)))) := ⟨_, ⟨rfl⟩⟩
 rw [← Ny283.out] at H
 (try rw [Option.bind_some] at H)
 by_cases c2 : y283.length + l0.length < 4398046511104
 ·rw [if_pos c2] at H
  have LMc2 := Aside0.mk c2
  clear c2
  obtain ⟨y286, Ny286⟩ : ∃ y_ : List (S61), Aside0 (y_ = (y283 ++ l0)) := ⟨_, ⟨rfl⟩⟩
  rw [← Ny286.out] at H
  (try rw [Option.bind_some] at H)
  obtain rfl := Option.some.inj H
  go_enter Try.func58, Try.ntmps58
  go_wp2_with (first | ((with_reducible refine gate_dst (N := 3) rfl ?_); refine Kd.R_lit k61 _ 61 ?hg (N := 3) ?hd (xs := ([] : List (S61))) (inner := []) (ok := fun _ => True) (okp := fun _ => True) ?hr ?hp (fun _ hk => hk) trivial (Below.refl _ _) (Nat.le_refl _) (by simp) ?_; (case hd => rfl); (case hg => rfl); (case hr => exact GR); (case hp => exact (Reps.none _ _)); intro v284 w3 ho4 hb hg_ hnew_; clear hg_ hnew_; (first | rw [← Ny283.out] at ho4 | (simp only [Int.reduceToNat] at ho4; rw [← Ny283.out] at ho4)); have HO285 := rlB ho4; replace HB := bbB hb; clear hb ho4) | ((with_reducible refine gate_builtin (b := .append) (xs := #[.tmp 3, .tmp 4]) rfl ?_); at_builtin; refine Kd.R_append_rows k61 (w0 := w) w.heap.size rfl (.tmp 3) (.tmp 4) 35 61 (.agg #[(.int .i64 0), (.int .i64 0), (.int .i64 0), (.int .i64 0)]) 32 rfl Try.underlying35 info61 rfl (by decide) (by omega) v284 y283 l0 _ _ _ (fun _ => True) (fun _ => False) rfl rfl ?aO ?aR (fun _ _ h => h) (fun _ h => h.elim) ?aF ?aB ?aS ?aL ?_; (case aR => exact cZr (Kd.C_below HR0.out HB.out)); (case aB => exact BB); (case aF => exact (fun _ _ => trivial)); (case aO => exact (rZr HO285)); (case aS => exact (below_size BB)); (case aL => have := LMc2.out; omega); intro v287 w5 ho hb hg hat; rw [← Ny286.out] at ho; replace HB := Aside0.mk (hb); have HO288 := Aside0.mk (ho); clear HO285; clear ho hb hg hat))
  go_ret
  exact ⟨_, EV, by (with_reducible repeat (first | apply Kd.R_alloc | apply Kd.R_drewN | apply Kd.R_drew)); exact HO288.out, BB⟩
 ·rw [if_neg c2] at H
  exact absurd H (by simp)
end Go.Proofs.Ytpbhoembdoofiaa.B
namespace Go.Proofs.Ytpbhoembdoofiaa.B
open Go.RowKit Go.Proofs.YtpbhoembdoofiaaW.PrintWords Go.Proofs.YtpbhoembdoofiaaW.PrintLast Go.Proofs.YtpbhoembdoofiaaW.PrintMore Go.Proofs.YtpbhoembdoofiaaW.Zc
set_option linter.unusedVariables false
set_option linter.unusedSimpArgs false
def impl_copyShop.f (l0_0 : List (S100)) (a0_1 : Int) (l0_2 : List Int) (a0_3 : Int) (a0_4 : Int) (l0_5 : List (S61)) : Option ((List (S100)) × Int × List Int × Int × Int × (List (S61))) := (impl_copyWork.f l0_0 a0_1 l0_2).bind fun bt291 => ((impl_copyLog.f l0_5).bind fun t298 => (some (bt291.1, bt291.2.1, bt291.2.2, a0_3, a0_4, t298)))
def impl_copyShop.T1 : Bool × List (List Nat × List Nat) := (true, [([], []), ([0], [0]), ([1], [1]), ([], []), ([3], [3]), ([], []), ([5], [5]), ([], []), ([7], [7]), ([8, 2], [8]), ([2, 4, 6, 9], [2, 4, 6, 9]), ([10, 9, 0, 1, 2, 3, 4, 5, 6, 7, 8, 9, 10], [10])])
def impl_copyShop.B1 : List Nat := [0, 1, 3, 0, 8, 0, 32, 0, 128, 391, 1023, 2047]
theorem impl_copyShop.tab1 : rtab .any (opsOf Try.f29 1) = impl_copyShop.T1 := by kernel_rfl
theorem impl_copyShop.bits1 : waitsOk impl_copyShop.T1.2 impl_copyShop.B1 = true := by kernel_rfl
set_option maxHeartbeats 8000000 in
set_option maxRecDepth 100000 in
theorem impl_copyShop.calls (A0_0 : Option Addr) (c0_0 : Nat) (l0_0 : List (S100)) (a0_1 : Int) (A0_2 : Option Addr) (c0_2 : Nat) (l0_2 : List Int) (a0_3 : Int) (a0_4 : Int) (A0_5 : Option Addr) (c0_5 : Nat) (l0_5 : List (S61)) (r1 : List (S100)) (r2 : Int) (r3 : List Int) (r4 : Int) (r5 : Int) (r6 : List (S61)) (w : World) (hr0_0 : Kd.C k100 w A0_0 l0_0.length l0_0) (hc0_0 : l0_0.length ≤ c0_0) (hr0_2 : Kd.C (Kd.int .i64) w A0_2 l0_2.length l0_2) (hc0_2 : l0_2.length ≤ c0_2) (hr0_5 : Kd.C k61 w A0_5 l0_5.length l0_5) (hc0_5 : l0_5.length ≤ c0_5) (h : impl_copyShop.f l0_0 a0_1 l0_2 a0_3 a0_4 l0_5 = some (r1, r2, r3, r4, r5, r6)) :
    Calls Try.prog 29 #[.agg #[.slice A0_0 l0_0.length c0_0, .int .i64 a0_1, .slice A0_2 l0_2.length c0_2, .int .i64 a0_3, .int .i64 a0_4, .slice A0_5 l0_5.length c0_5]] w fun e w' => ∃ v0_ v2_ v5_ : Value, e = .returned (.agg #[v0_, .int .i64 r2, v2_, .int .i64 r4, .int .i64 r5, v5_]) ∧ Kd.R k100 100 w' w.heap.size (fun _ => True) v0_ r1 ∧ Kd.R (Kd.int .i64) 3 w' w.heap.size (fun _ => True) v2_ r3 ∧ Kd.R k61 61 w' w.heap.size (fun _ => True) v5_ r6 ∧ Below w.heap.size w w' := by
 have hu37 := Try.underlying37
 have hu34 := Try.underlying34
 have HR0_0 := Aside0.mk hr0_0
 have HC0_0 := Aside0.mk hc0_0
 clear hr0_0 hc0_0
 have HR0_2 := Aside0.mk hr0_2
 have HC0_2 := Aside0.mk hc0_2
 clear hr0_2 hc0_2
 have HR0_5 := Aside0.mk hr0_5
 have HC0_5 := Aside0.mk hc0_5
 clear hr0_5 hc0_5
 have HB := Aside0.mk (Below.refl w.heap.size w)
 have H : ((impl_copyWork.f l0_0 a0_1 l0_2).bind fun bt291 => ((impl_copyLog.f l0_5).bind fun t298 => (some (bt291.1, bt291.2.1, bt291.2.2, a0_3, a0_4, t298)))) = some (r1, r2, r3, r4, r5, r6) := h
 clear h
 obtain ⟨⟨t291, t294, t295⟩, A2, H⟩ := bsI H
 dsimp only at H
 obtain ⟨t298, A3, H⟩ := bsI H
 simp only [Option.some.injEq, Prod.mk.injEq] at H
 obtain ⟨rfl, rfl, rfl, rfl, rfl, rfl⟩ := H
 go_enter Try.func29, Try.ntmps29
 try go_wp2_with (first | ((with_reducible refine bZx 1 (h := ?_)); refine bxE #[.slice A0_0 l0_0.length c0_0, .int .i64 a0_1, .slice A0_2 l0_2.length c0_2, .int .i64 a0_3, .int .i64 a0_4, .slice A0_5 l0_5.length c0_5] 37 ?_; intro gb289 hg w4 hbox hb; have BK289 := Aside0.mk (hbox); have GE289 := szB hg; replace HB := bbB hb; clear hb hbox hg) | ((with_reducible refine bZx 2 (h := ?_)); refine bxE #[.slice none 0 0, .int .i64 0, .slice none 0 0, .int .i64 0, .int .i64 0, .slice none 0 0] 37 ?_; intro gb290 hg w5 hbox hb; have BK290 := Aside0.mk (hbox); have GE290 := szB hg; replace HB := bbB hb; have NB289_290 := nlB BK289 hg; have NB290_289 := ngB BK289 hg; replace BK289 := kbB BK289 hb; clear hb hbox hg))
 replace BK289 := Aside0.mk (blk_drew BK289.out)
 replace BK290 := Aside0.mk (blk_drew BK290.out)
 replace HB := Aside0.mk (below_drew1 HB.out)
 refine start_ (n := 12) (S := fun w' => w'.cell? ⟨gb289, 0, none⟩ = some (.slice A0_0 l0_0.length c0_0) ∧ w'.cell? ⟨gb289, 1, none⟩ = some (.int .i64 a0_1) ∧ w'.cell? ⟨gb289, 2, none⟩ = some (.slice A0_2 l0_2.length c0_2) ∧ w'.cell? ⟨gb289, 3, none⟩ = some (.int .i64 a0_3) ∧ w'.cell? ⟨gb289, 4, none⟩ = some (.int .i64 a0_4) ∧ w'.cell? ⟨gb289, 5, none⟩ = some (.slice A0_5 l0_5.length c0_5)) (ds := []) (Array.replicate 12 false) (by kernel_rfl) rfl rfl ⟨kZc BK289 0, kZc BK289 1, kZc BK289 2, kZc BK289 3, kZc BK289 4, kZc BK289 5⟩ (fun hHeld => ?_); refine with_tabW impl_copyShop.tab1 impl_copyShop.bits1 (fun HT_ HW_ => ?_)
 generalize w5.drew = w6 at BK289 BK290 HB hHeld ⊢
 refine pZu 0 3 HT_ (h := ?_)
 refine pZu 3 6 HT_ (h := ?_)
 refine pZu 5 8 HT_ (h := ?_)
 refine pZu 7 10 HT_ (h := ?_)
 refine tZk 1 4 HT_ HW_ hHeld (h := ?_)
 refine tZk 4 7 HT_ HW_ hHeld (h := ?_)
 refine tZk 6 9 HT_ HW_ hHeld (h := ?_)
 refine tZk 8 11 HT_ HW_ hHeld (h := ?_)
 refine oZn 2 (some 5) HT_ (h := fun K hK => ?_)
 refine goes_ Try.func57 (by kernel_rfl) rfl #[.agg #[.slice A0_0 l0_0.length c0_0, .int .i64 a0_1, .slice A0_2 l0_2.length c0_2]] (by rfl) rfl rfl MP ?_
 with_reducible refine (impl_copyWork.calls _ _ l0_0 a0_1 _ _ l0_2 t291 t294 t295 _ ?side1 ?side2 ?side3 ?side4 A2.out).mono ?_
 (case side1 => exact cZr (Kd.C_below HR0_0.out HB.out))
 (case side2 => exact HC0_0.out)
 (case side3 => exact cZr (Kd.C_below HR0_2.out HB.out))
 (case side4 => exact HC0_2.out)
 rintro e w7 ⟨v292, v296, rfl, ho0, ho1, hb⟩
 refine ⟨_, rfl, ?_⟩
 have HO293 := rlB ho0
 have HO297 := rlB ho1
 replace BK289 := kbB BK289 hb
 replace BK290 := kbB BK290 hb
 replace HB := bbB hb
 (try clear hb)
 (try clear ho0)
 (try clear ho1)
 refine hK.out _ _ ⟨kZc BK289 0, kZc BK289 1, kZc BK289 2, kZc BK289 3, kZc BK289 4, kZc BK289 5⟩ (fun hHeld => ?_)
 clear hK K
 refine nZm (h := ?_)
 refine oZn 9 (some 12) HT_ (h := fun K hK => ?_)
 refine goes_ Try.func58 (by kernel_rfl) rfl #[.slice A0_5 l0_5.length c0_5] (by rfl) rfl rfl MP ?_
 with_reducible refine (impl_copyLog.calls _ _ l0_5 t298 _ ?side1 ?side2 A3.out).mono ?_
 (case side1 => exact cZr (Kd.C_below HR0_5.out HB.out))
 (case side2 => exact HC0_5.out)
 rintro e w8 ⟨v299, rfl, ho0, hb⟩
 refine ⟨_, rfl, ?_⟩
 replace HO293 := rbB HO293 hb
 replace HO297 := rbB HO297 hb
 have HO300 := rlB ho0
 replace BK289 := kbB BK289 hb
 replace BK290 := kbB BK290 hb
 replace HB := bbB hb
 (try clear hb)
 (try clear ho0)
 obtain ⟨Ao9, co9, eo9⟩ := Kd.R_slice HO300.out
 (first | subst eo9 | (obtain ⟨f4_, f5_⟩ := slI eo9; subst f4_; subst f5_))
 obtain ⟨Ao10, co10, eo10⟩ := Kd.R_slice HO297.out
 (first | subst eo10 | (obtain ⟨f4_, f5_⟩ := slI eo10; subst f4_; subst f5_))
 obtain ⟨Ao11, co11, eo11⟩ := Kd.R_slice HO293.out
 (first | subst eo11 | (obtain ⟨f4_, f5_⟩ := slI eo11; subst f4_; subst f5_))
 refine hK.out _ _ ⟨kZc BK289 0, kZc BK289 1, kZc BK289 2, kZc BK289 3, kZc BK289 4, kZc BK289 5⟩ (fun hHeld => ?_)
 clear hK K
 refine nZm (h := ?_)
 refine pZu 10 13 HT_ (h := ?_)
 refine oZn 11 none HT_ (h := fun K hK => ?_)
 have hs12 := kZc BK290 0
 have hfs12 := blk_frozen BK290.out 0
 have hns12_0 := NB289_290.out
 have hms12_0 := NB290_289.out
 have hs13 := kZc BK290 1
 have hfs13 := blk_frozen BK290.out 1
 have hns13_0 := NB289_290.out
 have hms13_0 := NB290_289.out
 have hs14 := kZc BK290 2
 have hfs14 := blk_frozen BK290.out 2
 have hns14_0 := NB289_290.out
 have hms14_0 := NB290_289.out
 have hs15 := kZc BK290 3
 have hfs15 := blk_frozen BK290.out 3
 have hns15_0 := NB289_290.out
 have hms15_0 := NB290_289.out
 have hs16 := kZc BK290 4
 have hfs16 := blk_frozen BK290.out 4
 have hns16_0 := NB289_290.out
 have hms16_0 := NB290_289.out
 have hs17 := kZc BK290 5
 have hfs17 := blk_frozen BK290.out 5
 have hns17_0 := NB289_290.out
 have hms17_0 := NB290_289.out
 refine skip_ (w1 := ?_) (by rfl) rfl ?_ ?_
 rotate_left
 ·go_simp
  rfl
 refine hK.out _ _ ⟨((cell_far (p := ⟨gb290, _, none⟩) NB289_290.out _).trans (((cell_far (p := ⟨gb290, _, none⟩) NB289_290.out _).trans (((cell_far (p := ⟨gb290, _, none⟩) NB289_290.out _).trans (((cell_far (p := ⟨gb290, _, none⟩) NB289_290.out _).trans (((cell_far (p := ⟨gb290, _, none⟩) NB289_290.out _).trans (((cell_far (p := ⟨gb290, _, none⟩) NB289_290.out _).trans (hHeld.1)))))))))))), ((cell_far (p := ⟨gb290, _, none⟩) NB289_290.out _).trans (((cell_far (p := ⟨gb290, _, none⟩) NB289_290.out _).trans (((cell_far (p := ⟨gb290, _, none⟩) NB289_290.out _).trans (((cell_far (p := ⟨gb290, _, none⟩) NB289_290.out _).trans (((cell_far (p := ⟨gb290, _, none⟩) NB289_290.out _).trans (((cell_far (p := ⟨gb290, _, none⟩) NB289_290.out _).trans (hHeld.2.1)))))))))))), ((cell_far (p := ⟨gb290, _, none⟩) NB289_290.out _).trans (((cell_far (p := ⟨gb290, _, none⟩) NB289_290.out _).trans (((cell_far (p := ⟨gb290, _, none⟩) NB289_290.out _).trans (((cell_far (p := ⟨gb290, _, none⟩) NB289_290.out _).trans (((cell_far (p := ⟨gb290, _, none⟩) NB289_290.out _).trans (((cell_far (p := ⟨gb290, _, none⟩) NB289_290.out _).trans (hHeld.2.2.1)))))))))))), ((cell_far (p := ⟨gb290, _, none⟩) NB289_290.out _).trans (((cell_far (p := ⟨gb290, _, none⟩) NB289_290.out _).trans (((cell_far (p := ⟨gb290, _, none⟩) NB289_290.out _).trans (((cell_far (p := ⟨gb290, _, none⟩) NB289_290.out _).trans (((cell_far (p := ⟨gb290, _, none⟩) NB289_290.out _).trans (((cell_far (p := ⟨gb290, _, none⟩) NB289_290.out _).trans (hHeld.2.2.2.1)))))))))))), ((cell_far (p := ⟨gb290, _, none⟩) NB289_290.out _).trans (((cell_far (p := ⟨gb290, _, none⟩) NB289_290.out _).trans (((cell_far (p := ⟨gb290, _, none⟩) NB289_290.out _).trans (((cell_far (p := ⟨gb290, _, none⟩) NB289_290.out _).trans (((cell_far (p := ⟨gb290, _, none⟩) NB289_290.out _).trans (((cell_far (p := ⟨gb290, _, none⟩) NB289_290.out _).trans (hHeld.2.2.2.2.1)))))))))))), ((cell_far (p := ⟨gb290, _, none⟩) NB289_290.out _).trans (((cell_far (p := ⟨gb290, _, none⟩) NB289_290.out _).trans (((cell_far (p := ⟨gb290, _, none⟩) NB289_290.out _).trans (((cell_far (p := ⟨gb290, _, none⟩) NB289_290.out _).trans (((cell_far (p := ⟨gb290, _, none⟩) NB289_290.out _).trans (((cell_far (p := ⟨gb290, _, none⟩) NB289_290.out _).trans (hHeld.2.2.2.2.2))))))))))))⟩ (fun hHeld => ?_)
 clear hK K
 refine done_ (done_of HT_.out (by kernel_rfl)) ?_
 try go_wp2
 refine bodyPost_ret (results_cell_row rfl _ _ gb290 37 #[.slice Ao11 t291.length co11, .int .i64 t294, .slice Ao10 t295.length co10, .int .i64 a0_3, .int .i64 a0_4, .slice Ao9 t298.length co9] (0, 0) _ rfl (kZq BK290) Try.underlying37 rfl (by kernel_rfl)) rfl ?_
 exact ⟨_, _, _, EV, rZz HO293, rZz HO297, rZz HO300, BB⟩
end Go.Proofs.Ytpbhoembdoofiaa.B
namespace Go.Proofs.Ytpbhoembdoofiaa.B
open Go.RowKit Go.Proofs.YtpbhoembdoofiaaW.PrintWords Go.Proofs.YtpbhoembdoofiaaW.PrintLast Go.Proofs.YtpbhoembdoofiaaW.PrintMore Go.Proofs.YtpbhoembdoofiaaW.Zc
set_option linter.unusedVariables false
set_option linter.unusedSimpArgs false
def impl_AddEntry.f (l0 : List (S61)) (a1_0 : Int) (a1_1 : Int) (a1_2 : Int) (a1_3 : Int) : Option ((List (S61)) × Bool) := (impl_copyLog.f l0).bind fun t302 => ((some (([(⟨(⟨a1_0, a1_1⟩ : S41), a1_2, a1_3⟩ : S61)] : List (S61)) : List (S61))).bind fun y305 => (if t302.length + y305.length < 4398046511104 then ((some (t302 ++ y305 : List (S61))).bind fun y308 => ((impl_LogOk.f l0).bind fun t311 => (if t311 = true then ((impl_LogOk.f y308).bind fun t312 => (if t312 = true then (some (y308, true)) else ((impl_copyLog.f l0).bind fun t313 => (some (t313, false))))) else ((impl_copyLog.f l0).bind fun t316 => (some (t316, false)))))) else (none)))
set_option maxHeartbeats 8000000 in
set_option maxRecDepth 100000 in
theorem impl_AddEntry.calls (A0 : Option Addr) (c0 : Nat) (l0 : List (S61)) (a1_0 : Int) (a1_1 : Int) (a1_2 : Int) (a1_3 : Int) (r1 : List (S61)) (r2 : Bool) (w : World) (hr0 : Kd.C k61 w A0 l0.length l0) (hc0 : l0.length ≤ c0) (h : impl_AddEntry.f l0 a1_0 a1_1 a1_2 a1_3 = some (r1, r2)) :
    Calls Try.prog 30 #[.slice A0 l0.length c0, .agg #[.int .i64 a1_0, .int .i64 a1_1, .int .i64 a1_2, .int .i64 a1_3]] w fun e w' => ∃ v0_ : Value, e = .returned (.tuple #[v0_, .bool r2]) ∧ Kd.R k61 61 w' w.heap.size (fun _ => True) v0_ r1 ∧ Below w.heap.size w w' := by
 have hu61 := Try.underlying61
 have HR0 := Aside0.mk hr0
 have HC0 := Aside0.mk hc0
 clear hr0 hc0
 have HB := Aside0.mk (Below.refl w.heap.size w)
 have H : ((impl_copyLog.f l0).bind fun t302 => ((some (([(⟨(⟨a1_0, a1_1⟩ : S41), a1_2, a1_3⟩ : S61)] : List (S61)) : List (S61))).bind fun y305 => (if t302.length + y305.length < 4398046511104 then ((some (t302 ++ y305 : List (S61))).bind fun y308 => ((impl_LogOk.f l0).bind fun t311 => (if t311 = true then ((impl_LogOk.f y308).bind fun t312 => (if t312 = true then (some (y308, true)) else ((impl_copyLog.f l0).bind fun t313 => (some (t313, false))))) else ((impl_copyLog.f l0).bind fun t316 => (some (t316, false)))))) else (none)))) = some (r1, r2) := h
 clear h
 obtain ⟨t302, A3, H⟩ := bsI H
 obtain ⟨y305, Ny305⟩ : ∃ y_ : List (S61), Aside0 (y_ = (([(⟨(⟨a1_0, a1_1⟩ : S41), a1_2, a1_3⟩ : S61)] : List (S61)))) := ⟨_, ⟨rfl⟩⟩
 rw [← Ny305.out] at H
 (try rw [Option.bind_some] at H)
 by_cases c4 : t302.length + y305.length < 4398046511104
 ·rw [if_pos c4] at H
  have LMc4 := Aside0.mk c4
  clear c4
  obtain ⟨y308, Ny308⟩ : ∃ y_ : List (S61), Aside0 (y_ = (t302 ++ y305)) := ⟨_, ⟨rfl⟩⟩
  rw [← Ny308.out] at H
  (try rw [Option.bind_some] at H)
  obtain ⟨t311, A5, H⟩ := bsI H
  by_cases c6 : t311 = true
  ·subst c6
   rw [if_pos rfl] at H
   obtain ⟨t312, A7, H⟩ := bsI H
   by_cases c8 : t312 = true
   ·subst c8
    rw [if_pos rfl] at H
    simp only [Option.some.injEq, Prod.mk.injEq] at H
    obtain ⟨rfl, rfl⟩ := H
    go_enter Try.func30, Try.ntmps30
    try go_wp2_with (first | ((with_reducible refine bZx 3 (h := ?_)); refine bxE #[.int .i64 a1_0, .int .i64 a1_1, .int .i64 a1_2, .int .i64 a1_3] 61 ?_; intro gb301 hg w9 hbox hb; have BK301 := Aside0.mk (hbox); have GE301 := szB hg; replace HB := bbB hb; clear hb hbox hg))
    replace BK301 := Aside0.mk (blk_drew BK301.out)
    replace HB := Aside0.mk (below_drew1 HB.out)
    refine start_ (n := 6) (S := fun w' => w'.cell? ⟨gb301, 0, none⟩ = some (.int .i64 a1_0) ∧ w'.cell? ⟨gb301, 1, none⟩ = some (.int .i64 a1_1) ∧ w'.cell? ⟨gb301, 2, none⟩ = some (.int .i64 a1_2) ∧ w'.cell? ⟨gb301, 3, none⟩ = some (.int .i64 a1_3)) (ds := []) (Array.replicate 6 false) (by kernel_rfl) rfl rfl ⟨kZc BK301 0, kZc BK301 1, kZc BK301 2, kZc BK301 3⟩ (fun hHeld => ?_)
    generalize w9.drew = w10 at BK301 HB hHeld ⊢
    refine pure_ (i := 0) (N := some 7) (v := ?_) (a' := ?_) #[true, false, false, false, false, false] rfl rfl (by kernel_rfl) (fun _ _ _ h => h) (Or.inl ⟨by rfl, ?_⟩) ?_ ?_
    rotate_left
    ·intro w'
     go_simp
     with_reducible rfl
    rotate_left
    ·simp only [Act.put, List.setIfInBounds_toArray, List.set_cons_zero, List.set_cons_succ, i64_w, i32_w]
     rfl
    refine take_ (i := 2) (N := some 9) (v := ?_) (a' := ?_) #[true, false, true, false, false, false] rfl rfl (by kernel_rfl) (fun _ _ _ h => h) (Or.inl ⟨by rfl, ?_⟩) hHeld ?_ ?_
    rotate_left
    ·rintro w' ⟨s0, s1, s2, s3⟩
     go_simp
     with_reducible rfl
    rotate_left
    ·simp only [Act.put, List.setIfInBounds_toArray, List.set_cons_zero, List.set_cons_succ, i64_w, i32_w]
     rfl
    refine join_ (σ := Value × Value) 2 #[true, true, true, true, false, false] (fun s_ => [(8, s_.1), (10, s_.2)]) (fun s_ w' => (w'.cell? ⟨gb301, 0, none⟩ = some (.int .i64 a1_0) ∧ w'.cell? ⟨gb301, 1, none⟩ = some (.int .i64 a1_1) ∧ w'.cell? ⟨gb301, 2, none⟩ = some (.int .i64 a1_2) ∧ w'.cell? ⟨gb301, 3, none⟩ = some (.int .i64 a1_3)) ∧ (Kd.R k61 61 w' w.heap.size (fun k_ => some k_ ≠ (s_.2 : Value).ownBlock ∧ k_ ≠ gb301) s_.1 t302) ∧ (Kd.R k61 61 w' w.heap.size (fun k_ => some k_ ≠ (s_.1 : Value).ownBlock ∧ k_ ≠ gb301) s_.2 y305) ∧ (w'.heap[gb301]? = some (.cells #[.int .i64 a1_0, .int .i64 a1_1, .int .i64 a1_2, .int .i64 a1_3] 61 (0, 0))) ∧ (Below w.heap.size w w')) ?_ ?_
    rotate_left
    ·intro hCont
     refine two_ (i := 1) (j := 3) (Ni := some 8) (Nj := some 10) #[true, true, true, false, false, false] #[true, false, true, true, false, false] rfl rfl rfl rfl (by kernel_rfl) (by decide) (by decide) (fun K hK => ?_) (fun K hK => ?_)
     ·skip
      refine goes_ Try.func58 (by kernel_rfl) rfl #[.slice A0 l0.length c0] (by rfl) rfl rfl MP ?_
      with_reducible refine (impl_copyLog.calls _ _ l0 t302 _ ?side1 ?side2 A3.out).mono ?_
      (case side1 => exact cZr (Kd.C_below HR0.out HB.out))
      (case side2 => exact HC0.out)
      rintro e w11 ⟨v303, rfl, ho0, hb⟩
      refine ⟨_, rfl, ?_⟩
      have HO304 := Aside0.mk (Kd.R_lower (Kd.R_newB ho0 (g := gb301) (o := .cells #[.int .i64 a1_0, .int .i64 a1_1, .int .i64 a1_2, .int .i64 a1_3] 61 (0, 0)) (kZb BK301)) (below_size BB))
      replace BK301 := kbB BK301 hb
      replace HB := bbB hb
      (try clear hb)
      (try clear ho0)
      refine hK.out _ _ ⟨kZc BK301 0, kZc BK301 1, kZc BK301 2, kZc BK301 3⟩ (fun hHeld => ?_)
      clear hK K
      refine nZm (h := ?_)
      refine one_ (i := 3) (N := some 10) #[true, true, true, true, false, false] rfl rfl (by kernel_rfl) (by decide) (fun K hK => ?_)
      refine Kd.R_lit_step k61 _ 61 ?hg (N := 10) ?hd (xs := ([(⟨(⟨a1_0, a1_1⟩ : S41), a1_2, a1_3⟩ : S61)] : List (S61))) (inner := [.int .i64 a1_0, .int .i64 a1_1, .int .i64 a1_2, .int .i64 a1_3]) (ok := fun _ => True) (okp := fun _ => True) ?hr ?hp (fun _ hk => hk) trivial (Below.refl _ _) (Nat.le_refl _) (by simp) ?_; (case hd => rfl); (case hg => rfl); (case hr => exact GR); (case hp => exact (Reps.c4 (show Kd.M k61 _ _ _ (⟨(⟨a1_0, a1_1⟩ : S41), a1_2, a1_3⟩ : S61) [.int .i64 a1_0, .int .i64 a1_1, .int .i64 a1_2, .int .i64 a1_3] from (k61_mkM _ _ _ (⟨(⟨a1_0, a1_1⟩ : S41), a1_2, a1_3⟩ : S61) )) (Reps.none _ _)))
      intro v306 w12 ho13 hb hg_ hnew_
      clear hg_ hnew_
      (first | rw [← Ny305.out] at ho13 | (simp only [Int.reduceToNat] at ho13; rw [← Ny305.out] at ho13))
      have HO307 := Aside0.mk (Kd.R_lower (Kd.R_newB (Kd.R_new' ho13 (Kd.R_lt (rZr HO304))) (g := gb301) (o := .cells #[.int .i64 a1_0, .int .i64 a1_1, .int .i64 a1_2, .int .i64 a1_3] 61 (0, 0)) (kZb BK301)) (below_size BB))
      replace HO304 := reB HO304 ho13 hb
      replace BK301 := kbB BK301 hb
      replace HB := bbB hb
      clear hb ho13
      refine hK.out _ _ ⟨kZc BK301 0, kZc BK301 1, kZc BK301 2, kZc BK301 3⟩ (fun hHeld => ?_)
      clear hK K
      refine nZm (h := ?_)
      exact nR (hCont (v303, v306) _ ⟨hHeld, (rM HO304 (fun _ hk => ⟨hk.2, hk.1.2⟩)), (rM HO307 (fun _ hk => ⟨hk.1.2, hk.2⟩)), (kZb BK301), BB⟩)
     ·skip
      refine Kd.R_lit_step k61 _ 61 ?hg (N := 10) ?hd (xs := ([(⟨(⟨a1_0, a1_1⟩ : S41), a1_2, a1_3⟩ : S61)] : List (S61))) (inner := [.int .i64 a1_0, .int .i64 a1_1, .int .i64 a1_2, .int .i64 a1_3]) (ok := fun _ => True) (okp := fun _ => True) ?hr ?hp (fun _ hk => hk) trivial (Below.refl _ _) (Nat.le_refl _) (by simp) ?_; (case hd => rfl); (case hg => rfl); (case hr => exact GR); (case hp => exact (Reps.c4 (show Kd.M k61 _ _ _ (⟨(⟨a1_0, a1_1⟩ : S41), a1_2, a1_3⟩ : S61) [.int .i64 a1_0, .int .i64 a1_1, .int .i64 a1_2, .int .i64 a1_3] from (k61_mkM _ _ _ (⟨(⟨a1_0, a1_1⟩ : S41), a1_2, a1_3⟩ : S61) )) (Reps.none _ _)))
      intro v306 w11 ho12 hb hg_ hnew_
      clear hg_ hnew_
      (first | rw [← Ny305.out] at ho12 | (simp only [Int.reduceToNat] at ho12; rw [← Ny305.out] at ho12))
      have HO307 := Aside0.mk (Kd.R_lower (Kd.R_newB ho12 (g := gb301) (o := .cells #[.int .i64 a1_0, .int .i64 a1_1, .int .i64 a1_2, .int .i64 a1_3] 61 (0, 0)) (kZb BK301)) (below_size BB))
      replace BK301 := kbB BK301 hb
      replace HB := bbB hb
      clear hb ho12
      refine hK.out _ _ ⟨kZc BK301 0, kZc BK301 1, kZc BK301 2, kZc BK301 3⟩ (fun hHeld => ?_)
      clear hK K
      refine nZm (h := ?_)
      refine one_ (i := 1) (N := some 8) #[true, true, true, true, false, false] rfl rfl (by kernel_rfl) (by decide) (fun K hK => ?_)
      refine goes_ Try.func58 (by kernel_rfl) rfl #[.slice A0 l0.length c0] (by rfl) rfl rfl MP ?_
      with_reducible refine (impl_copyLog.calls _ _ l0 t302 _ ?side1 ?side2 A3.out).mono ?_
      (case side1 => exact cZr (Kd.C_below HR0.out HB.out))
      (case side2 => exact HC0.out)
      rintro e w13 ⟨v303, rfl, ho0, hb⟩
      refine ⟨_, rfl, ?_⟩
      have HO304 := Aside0.mk (Kd.R_lower (Kd.R_newB (Kd.R_new' ho0 (Kd.R_lt (rZr HO307))) (g := gb301) (o := .cells #[.int .i64 a1_0, .int .i64 a1_1, .int .i64 a1_2, .int .i64 a1_3] 61 (0, 0)) (kZb BK301)) (below_size BB))
      replace HO307 := reB HO307 ho0 hb
      replace BK301 := kbB BK301 hb
      replace HB := bbB hb
      (try clear hb)
      (try clear ho0)
      refine hK.out _ _ ⟨kZc BK301 0, kZc BK301 1, kZc BK301 2, kZc BK301 3⟩ (fun hHeld => ?_)
      clear hK K
      refine nZm (h := ?_)
      exact nR (hCont (v303, v306) _ ⟨hHeld, (rM HO304 (fun _ hk => ⟨hk.1.2, hk.2⟩)), (rM HO307 (fun _ hk => ⟨hk.2, hk.1.2⟩)), (kZb BK301), BB⟩)
    rintro ⟨v303, v306⟩ w14 ⟨hS_, h0_, h1_, h2_, h3_⟩
    have n0_ : Aside0 (Kd.R k61 61 w14 w.heap.size (fun k_ => some k_ ≠ (v306 : Value).ownBlock ∧ k_ ≠ gb301) v303 t302) := ⟨h0_⟩
    have n1_ : Aside0 (Kd.R k61 61 w14 w.heap.size (fun k_ => some k_ ≠ (v303 : Value).ownBlock ∧ k_ ≠ gb301) v306 y305) := ⟨h1_⟩
    have n2_ : Aside0 (w14.heap[gb301]? = some (.cells #[.int .i64 a1_0, .int .i64 a1_1, .int .i64 a1_2, .int .i64 a1_3] 61 (0, 0))) := ⟨h2_⟩
    have n3_ : Aside0 (Below w.heap.size w w14) := ⟨h3_⟩
    clear BK301
    clear HB
    clear h0_ h1_ h2_ h3_
    have HO304 := n0_
    have HO307 := n1_
    have BK301 := n2_
    have HB := n3_
    clear n0_ n1_ n2_ n3_
    have hHeld : w14.cell? ⟨gb301, 0, none⟩ = some (.int .i64 a1_0) ∧ w14.cell? ⟨gb301, 1, none⟩ = some (.int .i64 a1_1) ∧ w14.cell? ⟨gb301, 2, none⟩ = some (.int .i64 a1_2) ∧ w14.cell? ⟨gb301, 3, none⟩ = some (.int .i64 a1_3) := hS_
    obtain ⟨Ao16, co16, eo16⟩ := Kd.R_slice HO307.out
    (first | subst eo16 | (obtain ⟨f4_, f5_⟩ := slI eo16; subst f4_; subst f5_))
    refine norm_ (a' := ?_) ?_ ?_
    rotate_left
    ·simp only [putAll, Act.put, List.setIfInBounds_toArray, List.set_cons_zero, List.set_cons_succ]
     rfl
    refine one_ (i := 4) (N := some 11) #[true, true, true, true, true, false] rfl rfl (by kernel_rfl) (by decide) (fun K hK => ?_)
    refine Kd.R_append_rows_step k61 (w0 := w) w.heap.size (by rfl) (.tmp 8) (.tmp 10) 35 61 (.agg #[(.int .i64 0), (.int .i64 0), (.int .i64 0), (.int .i64 0)]) 32 rfl Try.underlying35 info61 rfl (by decide) (by omega) v303 t302 y305 _ _ _ (fun k_ => some k_ ≠ (.slice Ao16 y305.length co16 : Value).ownBlock ∧ k_ ≠ gb301) (fun _ => False) rfl rfl ?aO ?aR (fun _ _ h => h) (fun _ h => h.elim) ?aF ?aB ?aS ?aL ?_
    (case aR => exact rdC HO307)
    (case aB => exact BB)
    (case aF => exact (fun k_ hk => ⟨Kd.fresh' (Kd.R_lt (rZr HO307)) k_ hk, Kd.freshB (g := gb301) (o := .cells #[.int .i64 a1_0, .int .i64 a1_1, .int .i64 a1_2, .int .i64 a1_3] 61 (0, 0)) (kZb BK301) k_ hk⟩))
    (case aO => exact (rZr HO304))
    (case aS => exact (below_size BB))
    (case aL => have := LMc4.out; omega)
    intro v309 w15 ho hb hg hat
    rw [← Ny308.out] at ho
    replace BK301 := Aside0.mk (blk_grown (g := gb301) (o := .cells #[.int .i64 a1_0, .int .i64 a1_1, .int .i64 a1_2, .int .i64 a1_3] 61 (0, 0)) (kZb BK301) hg (Kd.R_away HO304.out (fun _ hk => hk.2)))
    replace HO307 := Aside0.mk (Kd.R_after (ok := (fun k_ => k_ ≠ gb301)) (rM HO307 (fun _ hk => ⟨hk.2, hk.1⟩)) hg hat)
    replace HB := Aside0.mk (hb)
    have HO310 := Aside0.mk (ho)
    clear HO304
    clear ho hb hg hat
    refine hK.out _ _ ⟨kZc BK301 0, kZc BK301 1, kZc BK301 2, kZc BK301 3⟩ (fun hHeld => ?_)
    clear hK K
    refine nZm (h := ?_)
    refine pure_ (i := 5) (N := some 6) (v := ?_) (a' := ?_) #[true, true, true, true, true, true] rfl rfl (by kernel_rfl) (fun _ _ _ h => h) (Or.inl ⟨by rfl, ?_⟩) ?_ ?_
    rotate_left
    ·intro w'
     go_simp
     with_reducible rfl
    rotate_left
    ·simp only [Act.put, List.setIfInBounds_toArray, List.set_cons_zero, List.set_cons_succ, i64_w, i32_w]
     rfl
    refine done_ (by kernel_rfl) ?_
    try go_wp2_with (first | ((with_reducible refine gZc 42 (h := ?_)); refine gL 13 Try.func42 #[.slice A0 l0.length c0] ?_; (with_reducible refine (impl_LogOk.calls _ _ l0 true _ ?side1 ?side2 A5.out).mono ?_); (case side1 => exact cZr (Kd.C_below HR0.out HB.out)); (case side2 => exact HC0.out); rintro e w17 ⟨rfl, hb⟩; refine ⟨_, rfl, ?_⟩; replace HO307 := rbB HO307 hb; replace HO310 := rbB HO310 hb; replace BK301 := kbB BK301 hb; replace HB := bbB hb; (try clear hb); obtain ⟨Ao18, co18, eo18⟩ := Kd.R_slice HO310.out; subst eo18) | (go_at_call 42; (with_reducible refine (impl_LogOk.calls _ _ y308 true _ ?side1 ?side2 A7.out).mono ?_); (case side1 => exact rdC HO310); (case side2 => exact (rd1 HO310)); rintro e w19 ⟨rfl, hb⟩; replace HO307 := rbB HO307 hb; replace HO310 := rbB HO310 hb; replace BK301 := kbB BK301 hb; replace HB := bbB hb; (try clear hb)))
    go_ret2
    exact ⟨_, EV, by (with_reducible repeat (first | apply Kd.R_alloc | apply Kd.R_drewN | apply Kd.R_drew)); exact Kd.R_mono HO310.out (fun _ hk => trivial), BB⟩
   ·replace c8 := Bool.eq_false_iff.mpr c8
    subst c8
    rw [if_neg nft] at H
    obtain ⟨t313, A20, H⟩ := bsI H
    simp only [Option.some.injEq, Prod.mk.injEq] at H
    obtain ⟨rfl, rfl⟩ := H
    go_enter Try.func30, Try.ntmps30
    try go_wp2_with (first | ((with_reducible refine bZx 3 (h := ?_)); refine bxE #[.int .i64 a1_0, .int .i64 a1_1, .int .i64 a1_2, .int .i64 a1_3] 61 ?_; intro gb301 hg w21 hbox hb; have BK301 := Aside0.mk (hbox); have GE301 := szB hg; replace HB := bbB hb; clear hb hbox hg))
    replace BK301 := Aside0.mk (blk_drew BK301.out)
    replace HB := Aside0.mk (below_drew1 HB.out)
    refine start_ (n := 6) (S := fun w' => w'.cell? ⟨gb301, 0, none⟩ = some (.int .i64 a1_0) ∧ w'.cell? ⟨gb301, 1, none⟩ = some (.int .i64 a1_1) ∧ w'.cell? ⟨gb301, 2, none⟩ = some (.int .i64 a1_2) ∧ w'.cell? ⟨gb301, 3, none⟩ = some (.int .i64 a1_3)) (ds := []) (Array.replicate 6 false) (by kernel_rfl) rfl rfl ⟨kZc BK301 0, kZc BK301 1, kZc BK301 2, kZc BK301 3⟩ (fun hHeld => ?_)
    generalize w21.drew = w22 at BK301 HB hHeld ⊢
    refine pure_ (i := 0) (N := some 7) (v := ?_) (a' := ?_) #[true, false, false, false, false, false] rfl rfl (by kernel_rfl) (fun _ _ _ h => h) (Or.inl ⟨by rfl, ?_⟩) ?_ ?_
    rotate_left
    ·intro w'
     go_simp
     with_reducible rfl
    rotate_left
    ·simp only [Act.put, List.setIfInBounds_toArray, List.set_cons_zero, List.set_cons_succ, i64_w, i32_w]
     rfl
    refine take_ (i := 2) (N := some 9) (v := ?_) (a' := ?_) #[true, false, true, false, false, false] rfl rfl (by kernel_rfl) (fun _ _ _ h => h) (Or.inl ⟨by rfl, ?_⟩) hHeld ?_ ?_
    rotate_left
    ·rintro w' ⟨s0, s1, s2, s3⟩
     go_simp
     with_reducible rfl
    rotate_left
    ·simp only [Act.put, List.setIfInBounds_toArray, List.set_cons_zero, List.set_cons_succ, i64_w, i32_w]
     rfl
    refine join_ (σ := Value × Value) 2 #[true, true, true, true, false, false] (fun s_ => [(8, s_.1), (10, s_.2)]) (fun s_ w' => (w'.cell? ⟨gb301, 0, none⟩ = some (.int .i64 a1_0) ∧ w'.cell? ⟨gb301, 1, none⟩ = some (.int .i64 a1_1) ∧ w'.cell? ⟨gb301, 2, none⟩ = some (.int .i64 a1_2) ∧ w'.cell? ⟨gb301, 3, none⟩ = some (.int .i64 a1_3)) ∧ (Kd.R k61 61 w' w.heap.size (fun k_ => some k_ ≠ (s_.2 : Value).ownBlock ∧ k_ ≠ gb301) s_.1 t302) ∧ (Kd.R k61 61 w' w.heap.size (fun k_ => some k_ ≠ (s_.1 : Value).ownBlock ∧ k_ ≠ gb301) s_.2 y305) ∧ (w'.heap[gb301]? = some (.cells #[.int .i64 a1_0, .int .i64 a1_1, .int .i64 a1_2, .int .i64 a1_3] 61 (0, 0))) ∧ (Below w.heap.size w w')) ?_ ?_
    rotate_left
    ·intro hCont
     refine two_ (i := 1) (j := 3) (Ni := some 8) (Nj := some 10) #[true, true, true, false, false, false] #[true, false, true, true, false, false] rfl rfl rfl rfl (by kernel_rfl) (by decide) (by decide) (fun K hK => ?_) (fun K hK => ?_)
     ·skip
      refine goes_ Try.func58 (by kernel_rfl) rfl #[.slice A0 l0.length c0] (by rfl) rfl rfl MP ?_
      with_reducible refine (impl_copyLog.calls _ _ l0 t302 _ ?side1 ?side2 A3.out).mono ?_
      (case side1 => exact cZr (Kd.C_below HR0.out HB.out))
      (case side2 => exact HC0.out)
      rintro e w23 ⟨v303, rfl, ho0, hb⟩
      refine ⟨_, rfl, ?_⟩
      have HO304 := Aside0.mk (Kd.R_lower (Kd.R_newB ho0 (g := gb301) (o := .cells #[.int .i64 a1_0, .int .i64 a1_1, .int .i64 a1_2, .int .i64 a1_3] 61 (0, 0)) (kZb BK301)) (below_size BB))
      replace BK301 := kbB BK301 hb
      replace HB := bbB hb
      (try clear hb)
      (try clear ho0)
      refine hK.out _ _ ⟨kZc BK301 0, kZc BK301 1, kZc BK301 2, kZc BK301 3⟩ (fun hHeld => ?_)
      clear hK K
      refine nZm (h := ?_)
      refine one_ (i := 3) (N := some 10) #[true, true, true, true, false, false] rfl rfl (by kernel_rfl) (by decide) (fun K hK => ?_)
      refine Kd.R_lit_step k61 _ 61 ?hg (N := 10) ?hd (xs := ([(⟨(⟨a1_0, a1_1⟩ : S41), a1_2, a1_3⟩ : S61)] : List (S61))) (inner := [.int .i64 a1_0, .int .i64 a1_1, .int .i64 a1_2, .int .i64 a1_3]) (ok := fun _ => True) (okp := fun _ => True) ?hr ?hp (fun _ hk => hk) trivial (Below.refl _ _) (Nat.le_refl _) (by simp) ?_; (case hd => rfl); (case hg => rfl); (case hr => exact GR); (case hp => exact (Reps.c4 (show Kd.M k61 _ _ _ (⟨(⟨a1_0, a1_1⟩ : S41), a1_2, a1_3⟩ : S61) [.int .i64 a1_0, .int .i64 a1_1, .int .i64 a1_2, .int .i64 a1_3] from (k61_mkM _ _ _ (⟨(⟨a1_0, a1_1⟩ : S41), a1_2, a1_3⟩ : S61) )) (Reps.none _ _)))
      intro v306 w24 ho25 hb hg_ hnew_
      clear hg_ hnew_
      (first | rw [← Ny305.out] at ho25 | (simp only [Int.reduceToNat] at ho25; rw [← Ny305.out] at ho25))
      have HO307 := Aside0.mk (Kd.R_lower (Kd.R_newB (Kd.R_new' ho25 (Kd.R_lt (rZr HO304))) (g := gb301) (o := .cells #[.int .i64 a1_0, .int .i64 a1_1, .int .i64 a1_2, .int .i64 a1_3] 61 (0, 0)) (kZb BK301)) (below_size BB))
      replace HO304 := reB HO304 ho25 hb
      replace BK301 := kbB BK301 hb
      replace HB := bbB hb
      clear hb ho25
      refine hK.out _ _ ⟨kZc BK301 0, kZc BK301 1, kZc BK301 2, kZc BK301 3⟩ (fun hHeld => ?_)
      clear hK K
      refine nZm (h := ?_)
      exact nR (hCont (v303, v306) _ ⟨hHeld, (rM HO304 (fun _ hk => ⟨hk.2, hk.1.2⟩)), (rM HO307 (fun _ hk => ⟨hk.1.2, hk.2⟩)), (kZb BK301), BB⟩)
     ·skip
      refine Kd.R_lit_step k61 _ 61 ?hg (N := 10) ?hd (xs := ([(⟨(⟨a1_0, a1_1⟩ : S41), a1_2, a1_3⟩ : S61)] : List (S61))) (inner := [.int .i64 a1_0, .int .i64 a1_1, .int .i64 a1_2, .int .i64 a1_3]) (ok := fun _ => True) (okp := fun _ => True) ?hr ?hp (fun _ hk => hk) trivial (Below.refl _ _) (Nat.le_refl _) (by simp) ?_; (case hd => rfl); (case hg => rfl); (case hr => exact GR); (case hp => exact (Reps.c4 (show Kd.M k61 _ _ _ (⟨(⟨a1_0, a1_1⟩ : S41), a1_2, a1_3⟩ : S61) [.int .i64 a1_0, .int .i64 a1_1, .int .i64 a1_2, .int .i64 a1_3] from (k61_mkM _ _ _ (⟨(⟨a1_0, a1_1⟩ : S41), a1_2, a1_3⟩ : S61) )) (Reps.none _ _)))
      intro v306 w23 ho24 hb hg_ hnew_
      clear hg_ hnew_
      (first | rw [← Ny305.out] at ho24 | (simp only [Int.reduceToNat] at ho24; rw [← Ny305.out] at ho24))
      have HO307 := Aside0.mk (Kd.R_lower (Kd.R_newB ho24 (g := gb301) (o := .cells #[.int .i64 a1_0, .int .i64 a1_1, .int .i64 a1_2, .int .i64 a1_3] 61 (0, 0)) (kZb BK301)) (below_size BB))
      replace BK301 := kbB BK301 hb
      replace HB := bbB hb
      clear hb ho24
      refine hK.out _ _ ⟨kZc BK301 0, kZc BK301 1, kZc BK301 2, kZc BK301 3⟩ (fun hHeld => ?_)
      clear hK K
      refine nZm (h := ?_)
      refine one_ (i := 1) (N := some 8) #[true, true, true, true, false, false] rfl rfl (by kernel_rfl) (by decide) (fun K hK => ?_)
      refine goes_ Try.func58 (by kernel_rfl) rfl #[.slice A0 l0.length c0] (by rfl) rfl rfl MP ?_
      with_reducible refine (impl_copyLog.calls _ _ l0 t302 _ ?side1 ?side2 A3.out).mono ?_
      (case side1 => exact cZr (Kd.C_below HR0.out HB.out))
      (case side2 => exact HC0.out)
      rintro e w25 ⟨v303, rfl, ho0, hb⟩
      refine ⟨_, rfl, ?_⟩
      have HO304 := Aside0.mk (Kd.R_lower (Kd.R_newB (Kd.R_new' ho0 (Kd.R_lt (rZr HO307))) (g := gb301) (o := .cells #[.int .i64 a1_0, .int .i64 a1_1, .int .i64 a1_2, .int .i64 a1_3] 61 (0, 0)) (kZb BK301)) (below_size BB))
      replace HO307 := reB HO307 ho0 hb
      replace BK301 := kbB BK301 hb
      replace HB := bbB hb
      (try clear hb)
      (try clear ho0)
      refine hK.out _ _ ⟨kZc BK301 0, kZc BK301 1, kZc BK301 2, kZc BK301 3⟩ (fun hHeld => ?_)
      clear hK K
      refine nZm (h := ?_)
      exact nR (hCont (v303, v306) _ ⟨hHeld, (rM HO304 (fun _ hk => ⟨hk.1.2, hk.2⟩)), (rM HO307 (fun _ hk => ⟨hk.2, hk.1.2⟩)), (kZb BK301), BB⟩)
    rintro ⟨v303, v306⟩ w26 ⟨hS_, h0_, h1_, h2_, h3_⟩
    have n0_ : Aside0 (Kd.R k61 61 w26 w.heap.size (fun k_ => some k_ ≠ (v306 : Value).ownBlock ∧ k_ ≠ gb301) v303 t302) := ⟨h0_⟩
    have n1_ : Aside0 (Kd.R k61 61 w26 w.heap.size (fun k_ => some k_ ≠ (v303 : Value).ownBlock ∧ k_ ≠ gb301) v306 y305) := ⟨h1_⟩
    have n2_ : Aside0 (w26.heap[gb301]? = some (.cells #[.int .i64 a1_0, .int .i64 a1_1, .int .i64 a1_2, .int .i64 a1_3] 61 (0, 0))) := ⟨h2_⟩
    have n3_ : Aside0 (Below w.heap.size w w26) := ⟨h3_⟩
    clear BK301
    clear HB
    clear h0_ h1_ h2_ h3_
    have HO304 := n0_
    have HO307 := n1_
    have BK301 := n2_
    have HB := n3_
    clear n0_ n1_ n2_ n3_
    have hHeld : w26.cell? ⟨gb301, 0, none⟩ = some (.int .i64 a1_0) ∧ w26.cell? ⟨gb301, 1, none⟩ = some (.int .i64 a1_1) ∧ w26.cell? ⟨gb301, 2, none⟩ = some (.int .i64 a1_2) ∧ w26.cell? ⟨gb301, 3, none⟩ = some (.int .i64 a1_3) := hS_
    obtain ⟨Ao28, co28, eo28⟩ := Kd.R_slice HO307.out
    (first | subst eo28 | (obtain ⟨f4_, f5_⟩ := slI eo28; subst f4_; subst f5_))
    refine norm_ (a' := ?_) ?_ ?_
    rotate_left
    ·simp only [putAll, Act.put, List.setIfInBounds_toArray, List.set_cons_zero, List.set_cons_succ]
     rfl
    refine one_ (i := 4) (N := some 11) #[true, true, true, true, true, false] rfl rfl (by kernel_rfl) (by decide) (fun K hK => ?_)
    refine Kd.R_append_rows_step k61 (w0 := w) w.heap.size (by rfl) (.tmp 8) (.tmp 10) 35 61 (.agg #[(.int .i64 0), (.int .i64 0), (.int .i64 0), (.int .i64 0)]) 32 rfl Try.underlying35 info61 rfl (by decide) (by omega) v303 t302 y305 _ _ _ (fun k_ => some k_ ≠ (.slice Ao28 y305.length co28 : Value).ownBlock ∧ k_ ≠ gb301) (fun _ => False) rfl rfl ?aO ?aR (fun _ _ h => h) (fun _ h => h.elim) ?aF ?aB ?aS ?aL ?_
    (case aR => exact rdC HO307)
    (case aB => exact BB)
    (case aF => exact (fun k_ hk => ⟨Kd.fresh' (Kd.R_lt (rZr HO307)) k_ hk, Kd.freshB (g := gb301) (o := .cells #[.int .i64 a1_0, .int .i64 a1_1, .int .i64 a1_2, .int .i64 a1_3] 61 (0, 0)) (kZb BK301) k_ hk⟩))
    (case aO => exact (rZr HO304))
    (case aS => exact (below_size BB))
    (case aL => have := LMc4.out; omega)
    intro v309 w27 ho hb hg hat
    rw [← Ny308.out] at ho
    replace BK301 := Aside0.mk (blk_grown (g := gb301) (o := .cells #[.int .i64 a1_0, .int .i64 a1_1, .int .i64 a1_2, .int .i64 a1_3] 61 (0, 0)) (kZb BK301) hg (Kd.R_away HO304.out (fun _ hk => hk.2)))
    replace HO307 := Aside0.mk (Kd.R_after (ok := (fun k_ => k_ ≠ gb301)) (rM HO307 (fun _ hk => ⟨hk.2, hk.1⟩)) hg hat)
    replace HB := Aside0.mk (hb)
    have HO310 := Aside0.mk (ho)
    clear HO304
    clear ho hb hg hat
    refine hK.out _ _ ⟨kZc BK301 0, kZc BK301 1, kZc BK301 2, kZc BK301 3⟩ (fun hHeld => ?_)
    clear hK K
    refine nZm (h := ?_)
    refine pure_ (i := 5) (N := some 6) (v := ?_) (a' := ?_) #[true, true, true, true, true, true] rfl rfl (by kernel_rfl) (fun _ _ _ h => h) (Or.inl ⟨by rfl, ?_⟩) ?_ ?_
    rotate_left
    ·intro w'
     go_simp
     with_reducible rfl
    rotate_left
    ·simp only [Act.put, List.setIfInBounds_toArray, List.set_cons_zero, List.set_cons_succ, i64_w, i32_w]
     rfl
    refine done_ (by kernel_rfl) ?_
    try go_wp2_with (first | ((with_reducible refine gZc 42 (h := ?_)); refine gL 13 Try.func42 #[.slice A0 l0.length c0] ?_; (with_reducible refine (impl_LogOk.calls _ _ l0 true _ ?side1 ?side2 A5.out).mono ?_); (case side1 => exact cZr (Kd.C_below HR0.out HB.out)); (case side2 => exact HC0.out); rintro e w29 ⟨rfl, hb⟩; refine ⟨_, rfl, ?_⟩; replace HO307 := rbB HO307 hb; replace HO310 := rbB HO310 hb; replace BK301 := kbB BK301 hb; replace HB := bbB hb; (try clear hb); obtain ⟨Ao30, co30, eo30⟩ := Kd.R_slice HO310.out; subst eo30) | (go_at_call 42; (with_reducible refine (impl_LogOk.calls _ _ y308 false _ ?side1 ?side2 A7.out).mono ?_); (case side1 => exact rdC HO310); (case side2 => exact (rd1 HO310)); rintro e w31 ⟨rfl, hb⟩; replace HO307 := rbB HO307 hb; replace HO310 := rbB HO310 hb; replace BK301 := kbB BK301 hb; replace HB := bbB hb; (try clear hb)) | ((with_reducible refine gZc 58 (h := ?_)); refine gL 21 Try.func58 #[.slice A0 l0.length c0] ?_; (with_reducible refine (impl_copyLog.calls _ _ l0 t313 _ ?side1 ?side2 A20.out).mono ?_); (case side1 => exact cZr (Kd.C_below HR0.out HB.out)); (case side2 => exact HC0.out); rintro e w32 ⟨v314, rfl, ho0, hb⟩; refine ⟨_, rfl, ?_⟩; have HO315 := Aside0.mk (Kd.R_lower (Kd.R_newB (Kd.R_new' (Kd.R_new' ho0 (Kd.R_lt (rZr HO307))) (Kd.R_lt (rZr HO310))) (g := gb301) (o := .cells #[.int .i64 a1_0, .int .i64 a1_1, .int .i64 a1_2, .int .i64 a1_3] 61 (0, 0)) (kZb BK301)) (below_size BB)); replace HO307 := reB HO307 ho0 hb; replace HO310 := reB HO310 ho0 hb; replace BK301 := kbB BK301 hb; replace HB := bbB hb; (try clear hb); (try clear ho0)))
    go_ret2
    exact ⟨_, EV, by (with_reducible repeat (first | apply Kd.R_alloc | apply Kd.R_drewN | apply Kd.R_drew)); exact Kd.R_mono HO315.out (fun _ hk => trivial), BB⟩
  ·replace c6 := Bool.eq_false_iff.mpr c6
   subst c6
   rw [if_neg nft] at H
   obtain ⟨t316, A33, H⟩ := bsI H
   simp only [Option.some.injEq, Prod.mk.injEq] at H
   obtain ⟨rfl, rfl⟩ := H
   go_enter Try.func30, Try.ntmps30
   try go_wp2_with (first | ((with_reducible refine bZx 3 (h := ?_)); refine bxE #[.int .i64 a1_0, .int .i64 a1_1, .int .i64 a1_2, .int .i64 a1_3] 61 ?_; intro gb301 hg w34 hbox hb; have BK301 := Aside0.mk (hbox); have GE301 := szB hg; replace HB := bbB hb; clear hb hbox hg))
   replace BK301 := Aside0.mk (blk_drew BK301.out)
   replace HB := Aside0.mk (below_drew1 HB.out)
   refine start_ (n := 6) (S := fun w' => w'.cell? ⟨gb301, 0, none⟩ = some (.int .i64 a1_0) ∧ w'.cell? ⟨gb301, 1, none⟩ = some (.int .i64 a1_1) ∧ w'.cell? ⟨gb301, 2, none⟩ = some (.int .i64 a1_2) ∧ w'.cell? ⟨gb301, 3, none⟩ = some (.int .i64 a1_3)) (ds := []) (Array.replicate 6 false) (by kernel_rfl) rfl rfl ⟨kZc BK301 0, kZc BK301 1, kZc BK301 2, kZc BK301 3⟩ (fun hHeld => ?_)
   generalize w34.drew = w35 at BK301 HB hHeld ⊢
   refine pure_ (i := 0) (N := some 7) (v := ?_) (a' := ?_) #[true, false, false, false, false, false] rfl rfl (by kernel_rfl) (fun _ _ _ h => h) (Or.inl ⟨by rfl, ?_⟩) ?_ ?_
   rotate_left
   ·intro w'
    go_simp
    with_reducible rfl
   rotate_left
   ·simp only [Act.put, List.setIfInBounds_toArray, List.set_cons_zero, List.set_cons_succ, i64_w, i32_w]
    rfl
   refine take_ (i := 2) (N := some 9) (v := ?_) (a' := ?_) #[true, false, true, false, false, false] rfl rfl (by kernel_rfl) (fun _ _ _ h => h) (Or.inl ⟨by rfl, ?_⟩) hHeld ?_ ?_
   rotate_left
   ·rintro w' ⟨s0, s1, s2, s3⟩
    go_simp
    with_reducible rfl
   rotate_left
   ·simp only [Act.put, List.setIfInBounds_toArray, List.set_cons_zero, List.set_cons_succ, i64_w, i32_w]
    rfl
   refine join_ (σ := Value × Value) 2 #[true, true, true, true, false, false] (fun s_ => [(8, s_.1), (10, s_.2)]) (fun s_ w' => (w'.cell? ⟨gb301, 0, none⟩ = some (.int .i64 a1_0) ∧ w'.cell? ⟨gb301, 1, none⟩ = some (.int .i64 a1_1) ∧ w'.cell? ⟨gb301, 2, none⟩ = some (.int .i64 a1_2) ∧ w'.cell? ⟨gb301, 3, none⟩ = some (.int .i64 a1_3)) ∧ (Kd.R k61 61 w' w.heap.size (fun k_ => some k_ ≠ (s_.2 : Value).ownBlock ∧ k_ ≠ gb301) s_.1 t302) ∧ (Kd.R k61 61 w' w.heap.size (fun k_ => some k_ ≠ (s_.1 : Value).ownBlock ∧ k_ ≠ gb301) s_.2 y305) ∧ (w'.heap[gb301]? = some (.cells #[.int .i64 a1_0, .int .i64 a1_1, .int .i64 a1_2, .int .i64 a1_3] 61 (0, 0))) ∧ (Below w.heap.size w w')) ?_ ?_
   rotate_left
   ·intro hCont
    refine two_ (i := 1) (j := 3) (Ni := some 8) (Nj := some 10) #[true, true, true, false, false, false] #[true, false, true, true, false, false] rfl rfl rfl rfl (by kernel_rfl) (by decide) (by decide) (fun K hK => ?_) (fun K hK => ?_)
    ·skip
     refine goes_ Try.func58 (by kernel_rfl) rfl #[.slice A0 l0.length c0] (by rfl) rfl rfl MP ?_
     with_reducible refine (impl_copyLog.calls _ _ l0 t302 _ ?side1 ?side2 A3.out).mono ?_
     (case side1 => exact cZr (Kd.C_below HR0.out HB.out))
     (case side2 => exact HC0.out)
     rintro e w36 ⟨v303, rfl, ho0, hb⟩
     refine ⟨_, rfl, ?_⟩
     have HO304 := Aside0.mk (Kd.R_lower (Kd.R_newB ho0 (g := gb301) (o := .cells #[.int .i64 a1_0, .int .i64 a1_1, .int .i64 a1_2, .int .i64 a1_3] 61 (0, 0)) (kZb BK301)) (below_size BB))
     replace BK301 := kbB BK301 hb
     replace HB := bbB hb
     (try clear hb)
     (try clear ho0)
     refine hK.out _ _ ⟨kZc BK301 0, kZc BK301 1, kZc BK301 2, kZc BK301 3⟩ (fun hHeld => ?_)
     clear hK K
     refine nZm (h := ?_)
     refine one_ (i := 3) (N := some 10) #[true, true, true, true, false, false] rfl rfl (by kernel_rfl) (by decide) (fun K hK => ?_)
     refine Kd.R_lit_step k61 _ 61 ?hg (N := 10) ?hd (xs := ([(⟨(⟨a1_0, a1_1⟩ : S41), a1_2, a1_3⟩ : S61)] : List (S61))) (inner := [.int .i64 a1_0, .int .i64 a1_1, .int .i64 a1_2, .int .i64 a1_3]) (ok := fun _ => True) (okp := fun _ => True) ?hr ?hp (fun _ hk => hk) trivial (Below.refl _ _) (Nat.le_refl _) (by simp) ?_; (case hd => rfl); (case hg => rfl); (case hr => exact GR); (case hp => exact (Reps.c4 (show Kd.M k61 _ _ _ (⟨(⟨a1_0, a1_1⟩ : S41), a1_2, a1_3⟩ : S61) [.int .i64 a1_0, .int .i64 a1_1, .int .i64 a1_2, .int .i64 a1_3] from (k61_mkM _ _ _ (⟨(⟨a1_0, a1_1⟩ : S41), a1_2, a1_3⟩ : S61) )) (Reps.none _ _)))
     intro v306 w37 ho38 hb hg_ hnew_
     clear hg_ hnew_
     (first | rw [← Ny305.out] at ho38 | (simp only [Int.reduceToNat] at ho38; rw [← Ny305.out] at ho38))
     have HO307 := Aside0.mk (Kd.R_lower (Kd.R_newB (Kd.R_new' ho38 (Kd.R_lt (rZr HO304))) (g := gb301) (o := .cells #[.int .i64 a1_0, .int .i64 a1_1, .int .i64 a1_2, .int .i64 a1_3] 61 (0, 0)) (kZb BK301)) (below_size BB))
     replace HO304 := reB HO304 ho38 hb
     replace BK301 := kbB BK301 hb
     replace HB := bbB hb
     clear hb ho38
     refine hK.out _ _ ⟨kZc BK301 0, kZc BK301 1, kZc BK301 2, kZc BK301 3⟩ (fun hHeld => ?_)
     clear hK K
     refine nZm (h := ?_)
     exact nR (hCont (v303, v306) _ ⟨hHeld, (rM HO304 (fun _ hk => ⟨hk.2, hk.1.2⟩)), (rM HO307 (fun _ hk => ⟨hk.1.2, hk.2⟩)), (kZb BK301), BB⟩)
    ·skip
     refine Kd.R_lit_step k61 _ 61 ?hg (N := 10) ?hd (xs := ([(⟨(⟨a1_0, a1_1⟩ : S41), a1_2, a1_3⟩ : S61)] : List (S61))) (inner := [.int .i64 a1_0, .int .i64 a1_1, .int .i64 a1_2, .int .i64 a1_3]) (ok := fun _ => True) (okp := fun _ => True) ?hr ?hp (fun _ hk => hk) trivial (Below.refl _ _) (Nat.le_refl _) (by simp) ?_; (case hd => rfl); (case hg => rfl); (case hr => exact GR); (case hp => exact (Reps.c4 (show Kd.M k61 _ _ _ (⟨(⟨a1_0, a1_1⟩ : S41), a1_2, a1_3⟩ : S61) [.int .i64 a1_0, .int .i64 a1_1, .int .i64 a1_2, .int .i64 a1_3] from (k61_mkM _ _ _ (⟨(⟨a1_0, a1_1⟩ : S41), a1_2, a1_3⟩ : S61) )) (Reps.none _ _)))
     intro v306 w36 ho37 hb hg_ hnew_
     clear hg_ hnew_
     (first | rw [← Ny305.out] at ho37 | (simp only [Int.reduceToNat] at ho37; rw [← Ny305.out] at ho37))
     have HO307 := Aside0.mk (Kd.R_lower (Kd.R_newB ho37 (g := gb301) (o := .cells #[.int .i64 a1_0, .int .i64 a1_1, .int .i64 a1_2, .int .i64 a1_3] 61 (0, 0)) (kZb BK301)) (below_size BB))
     replace BK301 := kbB BK301 hb
     replace HB := bbB hb
     clear hb ho37
     refine hK.out _ _ ⟨kZc BK301 0, kZc BK301 1, kZc BK301 2, kZc BK301 3⟩ (fun hHeld => ?_)
     clear hK K
     refine nZm (h := ?_)
     refine one_ (i := 1) (N := some 8) #[true, true, true, true, false, false] rfl rfl (by kernel_rfl) (by decide) (fun K hK => ?_)
     refine goes_ Try.func58 (by kernel_rfl) rfl #[.slice A0 l0.length c0] (by rfl) rfl rfl MP ?_
     with_reducible refine (impl_copyLog.calls _ _ l0 t302 _ ?side1 ?side2 A3.out).mono ?_
     (case side1 => exact cZr (Kd.C_below HR0.out HB.out))
     (case side2 => exact HC0.out)
     rintro e w38 ⟨v303, rfl, ho0, hb⟩
     refine ⟨_, rfl, ?_⟩
     have HO304 := Aside0.mk (Kd.R_lower (Kd.R_newB (Kd.R_new' ho0 (Kd.R_lt (rZr HO307))) (g := gb301) (o := .cells #[.int .i64 a1_0, .int .i64 a1_1, .int .i64 a1_2, .int .i64 a1_3] 61 (0, 0)) (kZb BK301)) (below_size BB))
     replace HO307 := reB HO307 ho0 hb
     replace BK301 := kbB BK301 hb
     replace HB := bbB hb
     (try clear hb)
     (try clear ho0)
     refine hK.out _ _ ⟨kZc BK301 0, kZc BK301 1, kZc BK301 2, kZc BK301 3⟩ (fun hHeld => ?_)
     clear hK K
     refine nZm (h := ?_)
     exact nR (hCont (v303, v306) _ ⟨hHeld, (rM HO304 (fun _ hk => ⟨hk.1.2, hk.2⟩)), (rM HO307 (fun _ hk => ⟨hk.2, hk.1.2⟩)), (kZb BK301), BB⟩)
   rintro ⟨v303, v306⟩ w39 ⟨hS_, h0_, h1_, h2_, h3_⟩
   have n0_ : Aside0 (Kd.R k61 61 w39 w.heap.size (fun k_ => some k_ ≠ (v306 : Value).ownBlock ∧ k_ ≠ gb301) v303 t302) := ⟨h0_⟩
   have n1_ : Aside0 (Kd.R k61 61 w39 w.heap.size (fun k_ => some k_ ≠ (v303 : Value).ownBlock ∧ k_ ≠ gb301) v306 y305) := ⟨h1_⟩
   have n2_ : Aside0 (w39.heap[gb301]? = some (.cells #[.int .i64 a1_0, .int .i64 a1_1, .int .i64 a1_2, .int .i64 a1_3] 61 (0, 0))) := ⟨h2_⟩
   have n3_ : Aside0 (Below w.heap.size w w39) := ⟨h3_⟩
   clear BK301
   clear HB
   clear h0_ h1_ h2_ h3_
   have HO304 := n0_
   have HO307 := n1_
   have BK301 := n2_
   have HB := n3_
   clear n0_ n1_ n2_ n3_
   have hHeld : w39.cell? ⟨gb301, 0, none⟩ = some (.int .i64 a1_0) ∧ w39.cell? ⟨gb301, 1, none⟩ = some (.int .i64 a1_1) ∧ w39.cell? ⟨gb301, 2, none⟩ = some (.int .i64 a1_2) ∧ w39.cell? ⟨gb301, 3, none⟩ = some (.int .i64 a1_3) := hS_
   obtain ⟨Ao41, co41, eo41⟩ := Kd.R_slice HO307.out
   (first | subst eo41 | (obtain ⟨f4_, f5_⟩ := slI eo41; subst f4_; subst f5_))
   refine norm_ (a' := ?_) ?_ ?_
   rotate_left
   ·simp only [putAll, Act.put, List.setIfInBounds_toArray, List.set_cons_zero, List.set_cons_succ]
    rfl
   refine one_ (i := 4) (N := some 11) #[true, true, true, true, true, false] rfl rfl (by kernel_rfl) (by decide) (fun K hK => ?_)
   refine Kd.R_append_rows_step k61 (w0 := w) w.heap.size (by rfl) (.tmp 8) (.tmp 10) 35 61 (.agg #[(.int .i64 0), (.int .i64 0), (.int .i64 0), (.int .i64 0)]) 32 rfl Try.underlying35 info61 rfl (by decide) (by omega) v303 t302 y305 _ _ _ (fun k_ => some k_ ≠ (.slice Ao41 y305.length co41 : Value).ownBlock ∧ k_ ≠ gb301) (fun _ => False) rfl rfl ?aO ?aR (fun _ _ h => h) (fun _ h => h.elim) ?aF ?aB ?aS ?aL ?_
   (case aR => exact rdC HO307)
   (case aB => exact BB)
   (case aF => exact (fun k_ hk => ⟨Kd.fresh' (Kd.R_lt (rZr HO307)) k_ hk, Kd.freshB (g := gb301) (o := .cells #[.int .i64 a1_0, .int .i64 a1_1, .int .i64 a1_2, .int .i64 a1_3] 61 (0, 0)) (kZb BK301) k_ hk⟩))
   (case aO => exact (rZr HO304))
   (case aS => exact (below_size BB))
   (case aL => have := LMc4.out; omega)
   intro v309 w40 ho hb hg hat
   rw [← Ny308.out] at ho
   replace BK301 := Aside0.mk (blk_grown (g := gb301) (o := .cells #[.int .i64 a1_0, .int .i64 a1_1, .int .i64 a1_2, .int .i64 a1_3] 61 (0, 0)) (kZb BK301) hg (Kd.R_away HO304.out (fun _ hk => hk.2)))
   replace HO307 := Aside0.mk (Kd.R_after (ok := (fun k_ => k_ ≠ gb301)) (rM HO307 (fun _ hk => ⟨hk.2, hk.1⟩)) hg hat)
   replace HB := Aside0.mk (hb)
   have HO310 := Aside0.mk (ho)
   clear HO304
   clear ho hb hg hat
   refine hK.out _ _ ⟨kZc BK301 0, kZc BK301 1, kZc BK301 2, kZc BK301 3⟩ (fun hHeld => ?_)
   clear hK K
   refine nZm (h := ?_)
   refine pure_ (i := 5) (N := some 6) (v := ?_) (a' := ?_) #[true, true, true, true, true, true] rfl rfl (by kernel_rfl) (fun _ _ _ h => h) (Or.inl ⟨by rfl, ?_⟩) ?_ ?_
   rotate_left
   ·intro w'
    go_simp
    with_reducible rfl
   rotate_left
   ·simp only [Act.put, List.setIfInBounds_toArray, List.set_cons_zero, List.set_cons_succ, i64_w, i32_w]
    rfl
   refine done_ (by kernel_rfl) ?_
   try go_wp2_with (first | ((with_reducible refine gZc 42 (h := ?_)); refine gL 13 Try.func42 #[.slice A0 l0.length c0] ?_; (with_reducible refine (impl_LogOk.calls _ _ l0 false _ ?side1 ?side2 A5.out).mono ?_); (case side1 => exact cZr (Kd.C_below HR0.out HB.out)); (case side2 => exact HC0.out); rintro e w42 ⟨rfl, hb⟩; refine ⟨_, rfl, ?_⟩; replace HO307 := rbB HO307 hb; replace HO310 := rbB HO310 hb; replace BK301 := kbB BK301 hb; replace HB := bbB hb; (try clear hb)) | ((with_reducible refine gZc 58 (h := ?_)); refine gL 21 Try.func58 #[.slice A0 l0.length c0] ?_; (with_reducible refine (impl_copyLog.calls _ _ l0 t316 _ ?side1 ?side2 A33.out).mono ?_); (case side1 => exact cZr (Kd.C_below HR0.out HB.out)); (case side2 => exact HC0.out); rintro e w43 ⟨v317, rfl, ho0, hb⟩; refine ⟨_, rfl, ?_⟩; have HO318 := Aside0.mk (Kd.R_lower (Kd.R_newB (Kd.R_new' (Kd.R_new' ho0 (Kd.R_lt (rZr HO307))) (Kd.R_lt (rZr HO310))) (g := gb301) (o := .cells #[.int .i64 a1_0, .int .i64 a1_1, .int .i64 a1_2, .int .i64 a1_3] 61 (0, 0)) (kZb BK301)) (below_size BB)); replace HO307 := reB HO307 ho0 hb; replace HO310 := reB HO310 ho0 hb; replace BK301 := kbB BK301 hb; replace HB := bbB hb; (try clear hb); (try clear ho0)))
   go_ret2
   exact ⟨_, EV, by (with_reducible repeat (first | apply Kd.R_alloc | apply Kd.R_drewN | apply Kd.R_drew)); exact Kd.R_mono HO318.out (fun _ hk => trivial), BB⟩
 ·rw [if_neg c4] at H
  exact absurd H (by simp)
end Go.Proofs.Ytpbhoembdoofiaa.B
namespace Go.Proofs.Ytpbhoembdoofiaa.B
open Go.RowKit Go.Proofs.YtpbhoembdoofiaaW.PrintWords Go.Proofs.YtpbhoembdoofiaaW.PrintLast Go.Proofs.YtpbhoembdoofiaaW.PrintMore Go.Proofs.YtpbhoembdoofiaaW.Zc
set_option linter.unusedVariables false
set_option linter.unusedSimpArgs false
def laws_szEntryS.f (l0 : List (S88)) (a1 : Int) : Option (Int) := if (wrap64 (a1 - (l0.length : Int))) < 0 then (some (-1)) else (some (wrap64 (a1 - (l0.length : Int))))
set_option maxHeartbeats 8000000 in
set_option maxRecDepth 100000 in
theorem laws_szEntryS.calls (A0 : Option Addr) (c0 : Nat) (l0 : List (S88)) (a1 : Int) (r : Int) (w : World) (hr0 : Kd.C k88 w A0 l0.length l0) (hc0 : l0.length ≤ c0) (h : laws_szEntryS.f l0 a1 = some r) :
    Calls Try.prog 23 #[.slice A0 l0.length c0, .int .i64 a1] w fun e w' => e = .returned (.int .i64 r) ∧ Drawn0 w w' := by
 have HR0 := Aside0.mk hr0
 have HC0 := Aside0.mk hc0
 clear hr0 hc0
 have H : (if (wrap64 (a1 - (l0.length : Int))) < 0 then (some (-1)) else (some (wrap64 (a1 - (l0.length : Int))))) = some r := h
 clear h
 by_cases c3 : (wrap64 (a1 - (l0.length : Int))) < 0
 ·rw [if_pos c3] at H
  have c3b0 := decide_eq_true c3
  clear c3
  obtain rfl := Option.some.inj H
  go_enter Try.func23, Try.ntmps23
  go_wp2
  go_ret
  exact ⟨RF, DR⟩
 ·rw [if_neg c3] at H
  have c3b0 := decide_eq_false c3
  clear c3
  obtain rfl := Option.some.inj H
  go_enter Try.func23, Try.ntmps23
  go_wp2
  go_ret
  exact ⟨RF, DR⟩
end Go.Proofs.Ytpbhoembdoofiaa.B
namespace Go.Proofs.Ytpbhoembdoofiaa.B
open Go.RowKit Go.Proofs.YtpbhoembdoofiaaW.PrintWords Go.Proofs.YtpbhoembdoofiaaW.PrintLast Go.Proofs.YtpbhoembdoofiaaW.PrintMore Go.Proofs.YtpbhoembdoofiaaW.Zc
set_option linter.unusedVariables false
set_option linter.unusedSimpArgs false
def impl_ShopFault.f (l0_0 : List (S100)) (a0_1 : Int) (l0_2 : List Int) (a0_3 : Int) (a0_4 : Int) (l0_5 : List (S61)) (a1_0 : Int) (a1_1 : Int) (a2 : Int) : Option ((List (S100)) × Int × List Int × Int × Int × (List (S61)) × Bool) := (impl_copyShop.f l0_0 a0_1 l0_2 a0_3 a0_4 l0_5).bind fun bt322 => ((impl_ShopOk.f l0_0 a0_1 l0_2 a0_3 a0_4 l0_5).bind fun t335 => (if t335 = true then ((impl_AddEntry.f l0_5 a1_0 a1_1 a2 a0_4).bind fun bt336 => (if bt336.2 = true then (some (bt322.1, bt322.2.1, bt322.2.2.1, bt322.2.2.2.1, bt322.2.2.2.2.1, bt336.1, true)) else (some (bt322.1, bt322.2.1, bt322.2.2.1, bt322.2.2.2.1, bt322.2.2.2.2.1, bt322.2.2.2.2.2, false)))) else (some (bt322.1, bt322.2.1, bt322.2.2.1, bt322.2.2.2.1, bt322.2.2.2.2.1, bt322.2.2.2.2.2, false))))
set_option maxHeartbeats 8000000 in
set_option maxRecDepth 100000 in
theorem impl_ShopFault.calls (A0_0 : Option Addr) (c0_0 : Nat) (l0_0 : List (S100)) (a0_1 : Int) (A0_2 : Option Addr) (c0_2 : Nat) (l0_2 : List Int) (a0_3 : Int) (a0_4 : Int) (A0_5 : Option Addr) (c0_5 : Nat) (l0_5 : List (S61)) (a1_0 : Int) (a1_1 : Int) (a2 : Int) (r1 : List (S100)) (r2 : Int) (r3 : List Int) (r4 : Int) (r5 : Int) (r6 : List (S61)) (r7 : Bool) (w : World) (hr0_0 : Kd.C k100 w A0_0 l0_0.length l0_0) (hc0_0 : l0_0.length ≤ c0_0) (hr0_2 : Kd.C (Kd.int .i64) w A0_2 l0_2.length l0_2) (hc0_2 : l0_2.length ≤ c0_2) (hr0_5 : Kd.C k61 w A0_5 l0_5.length l0_5) (hc0_5 : l0_5.length ≤ c0_5) (h : impl_ShopFault.f l0_0 a0_1 l0_2 a0_3 a0_4 l0_5 a1_0 a1_1 a2 = some (r1, r2, r3, r4, r5, r6, r7)) :
    Calls Try.prog 9 #[.agg #[.slice A0_0 l0_0.length c0_0, .int .i64 a0_1, .slice A0_2 l0_2.length c0_2, .int .i64 a0_3, .int .i64 a0_4, .slice A0_5 l0_5.length c0_5], .agg #[.int .i64 a1_0, .int .i64 a1_1], .int .i64 a2] w fun e w' => ∃ v0_ v2_ v5_ : Value, e = .returned (.tuple #[.agg #[v0_, .int .i64 r2, v2_, .int .i64 r4, .int .i64 r5, v5_], .bool r7]) ∧ Kd.R k100 100 w' w.heap.size (fun _ => True) v0_ r1 ∧ Kd.R (Kd.int .i64) 3 w' w.heap.size (fun _ => True) v2_ r3 ∧ Kd.R k61 61 w' w.heap.size (fun _ => True) v5_ r6 ∧ Below w.heap.size w w' := by
 have hu37 := Try.underlying37
 have hu41 := Try.underlying41
 have hu61 := Try.underlying61
 have HR0_0 := Aside0.mk hr0_0
 have HC0_0 := Aside0.mk hc0_0
 clear hr0_0 hc0_0
 have HR0_2 := Aside0.mk hr0_2
 have HC0_2 := Aside0.mk hc0_2
 clear hr0_2 hc0_2
 have HR0_5 := Aside0.mk hr0_5
 have HC0_5 := Aside0.mk hc0_5
 clear hr0_5 hc0_5
 have HB := Aside0.mk (Below.refl w.heap.size w)
 have H : ((impl_copyShop.f l0_0 a0_1 l0_2 a0_3 a0_4 l0_5).bind fun bt322 => ((impl_ShopOk.f l0_0 a0_1 l0_2 a0_3 a0_4 l0_5).bind fun t335 => (if t335 = true then ((impl_AddEntry.f l0_5 a1_0 a1_1 a2 a0_4).bind fun bt336 => (if bt336.2 = true then (some (bt322.1, bt322.2.1, bt322.2.2.1, bt322.2.2.2.1, bt322.2.2.2.2.1, bt336.1, true)) else (some (bt322.1, bt322.2.1, bt322.2.2.1, bt322.2.2.2.1, bt322.2.2.2.2.1, bt322.2.2.2.2.2, false)))) else (some (bt322.1, bt322.2.1, bt322.2.2.1, bt322.2.2.2.1, bt322.2.2.2.2.1, bt322.2.2.2.2.2, false))))) = some (r1, r2, r3, r4, r5, r6, r7) := h
 clear h
 obtain ⟨⟨t322, t325, t326, t329, t330, t331⟩, A4, H⟩ := bsI H
 dsimp only at H
 obtain ⟨t335, A5, H⟩ := bsI H
 by_cases c6 : t335 = true
 ·subst c6
  rw [if_pos rfl] at H
  obtain ⟨⟨t336, t339⟩, A7, H⟩ := bsI H
  dsimp only at H
  by_cases c8 : t339 = true
  ·subst c8
   rw [if_pos rfl] at H
   simp only [Option.some.injEq, Prod.mk.injEq] at H
   obtain ⟨rfl, rfl, rfl, rfl, rfl, rfl, rfl⟩ := H
   go_enter Try.func9, Try.ntmps9
   go_wp2_with (first | ((with_reducible refine bZx 3 (h := ?_)); refine bxE #[.slice A0_0 l0_0.length c0_0, .int .i64 a0_1, .slice A0_2 l0_2.length c0_2, .int .i64 a0_3, .int .i64 a0_4, .slice A0_5 l0_5.length c0_5] 37 ?_; intro gb319 hg w9 hbox hb; have BK319 := Aside0.mk (hbox); have GE319 := szB hg; replace HB := bbB hb; clear hb hbox hg) | ((with_reducible refine bZx 4 (h := ?_)); refine bxE #[.int .i64 a1_0, .int .i64 a1_1] 41 ?_; intro gb320 hg w10 hbox hb; have BK320 := Aside0.mk (hbox); have GE320 := szB hg; replace HB := bbB hb; have NB319_320 := nlB BK319 hg; have NB320_319 := ngB BK319 hg; replace BK319 := kbB BK319 hb; clear hb hbox hg) | ((with_reducible refine bZx 6 (h := ?_)); refine bxE #[.slice none 0 0, .int .i64 0, .slice none 0 0, .int .i64 0, .int .i64 0, .slice none 0 0] 37 ?_; intro gb321 hg w11 hbox hb; have BK321 := Aside0.mk (hbox); have GE321 := szB hg; replace HB := bbB hb; have NB319_321 := nlB BK319 hg; have NB321_319 := ngB BK319 hg; replace BK319 := kbB BK319 hb; have NB320_321 := nlB BK320 hg; have NB321_320 := ngB BK320 hg; replace BK320 := kbB BK320 hb; clear hb hbox hg; have hnb12 := NB319_320.out; have hnc12 := NB320_319.out; have hnb13 := NB319_321.out; have hnc13 := NB321_319.out; obtain ⟨hcz14_0, hcz14_1, hcz14_2, hcz14_3, hcz14_4, hcz14_5, hfz14_0, hfz14_1, hfz14_2, hfz14_3, hfz14_4, hfz14_5⟩ := kZc6 BK319) | ((with_reducible refine gZc 29 (h := ?_)); refine gL 12 Try.func29 #[.agg #[.slice A0_0 l0_0.length c0_0, .int .i64 a0_1, .slice A0_2 l0_2.length c0_2, .int .i64 a0_3, .int .i64 a0_4, .slice A0_5 l0_5.length c0_5]] ?_; (with_reducible refine (impl_copyShop.calls _ _ l0_0 a0_1 _ _ l0_2 a0_3 a0_4 _ _ l0_5 t322 t325 t326 t329 t330 t331 _ ?side1 ?side2 ?side3 ?side4 ?side5 ?side6 A4.out).mono ?_); (case side1 => exact cZr (Kd.C_below HR0_0.out HB.out)); (case side2 => exact HC0_0.out); (case side3 => exact cZr (Kd.C_below HR0_2.out HB.out)); (case side4 => exact HC0_2.out); (case side5 => exact cZr (Kd.C_below HR0_5.out HB.out)); (case side6 => exact HC0_5.out); rintro e w15 ⟨v323, v327, v332, rfl, ho0, ho1, ho2, hb⟩; refine ⟨_, rfl, ?_⟩; have HO324 := rlB ho0; have HO328 := rlB ho1; have HO333 := rlB ho2; replace BK319 := kbB BK319 hb; replace BK320 := kbB BK320 hb; replace BK321 := kbB BK321 hb; replace HB := bbB hb; (try clear hb); (try clear ho0); (try clear ho1); (try clear ho2)) | ((with_reducible refine bZx 8 (h := ?_)); refine bxE #[.slice none 0 0, .int .i64 0, .slice none 0 0, .int .i64 0, .int .i64 0, .slice none 0 0] 37 ?_; intro gb334 hg w16 hbox hb; replace HO324 := rbB HO324 hb; replace HO328 := rbB HO328 hb; replace HO333 := rbB HO333 hb; have BK334 := Aside0.mk (hbox); have GE334 := szB hg; replace HB := bbB hb; have NB319_334 := nlB BK319 hg; have NB334_319 := ngB BK319 hg; replace BK319 := kbB BK319 hb; have NB320_334 := nlB BK320 hg; have NB334_320 := ngB BK320 hg; replace BK320 := kbB BK320 hb; have NB321_334 := nlB BK321 hg; have NB334_321 := ngB BK321 hg; replace BK321 := kbB BK321 hb; clear hb hbox hg; obtain ⟨Ao17, co17, eo17⟩ := Kd.R_slice HO324.out; subst eo17; have hnb18 := NB334_319.out; have hnc18 := NB319_334.out; have hnb19 := NB334_320.out; have hnc19 := NB320_334.out; have hnb20 := NB334_321.out; have hnc20 := NB321_334.out; obtain ⟨hcz21_0, hcz21_1, hcz21_2, hcz21_3, hcz21_4, hcz21_5, hfz21_0, hfz21_1, hfz21_2, hfz21_3, hfz21_4, hfz21_5⟩ := kZc6 BK334; obtain ⟨Ao22, co22, eo22⟩ := Kd.R_slice HO328.out; subst eo22; obtain ⟨Ao23, co23, eo23⟩ := Kd.R_slice HO333.out; subst eo23; obtain ⟨hcz24_0, hcz24_1, hcz24_2, hcz24_3, hcz24_4, hcz24_5, hfz24_0, hfz24_1, hfz24_2, hfz24_3, hfz24_4, hfz24_5⟩ := kZc6 BK319) | ((with_reducible refine gZc 19 (h := ?_)); refine gL 14 Try.func19 #[.agg #[.slice A0_0 l0_0.length c0_0, .int .i64 a0_1, .slice A0_2 l0_2.length c0_2, .int .i64 a0_3, .int .i64 a0_4, .slice A0_5 l0_5.length c0_5]] ?_; (with_reducible refine (impl_ShopOk.calls _ _ l0_0 a0_1 _ _ l0_2 a0_3 a0_4 _ _ l0_5 true _ ?side1 ?side2 ?side3 ?side4 ?side5 ?side6 A5.out).mono ?_); (case side1 => exact Kd.C_below HR0_0.out BB); (case side2 => exact HC0_0.out); (case side3 => exact Kd.C_below HR0_2.out BB); (case side4 => exact HC0_2.out); (case side5 => exact Kd.C_below HR0_5.out BB); (case side6 => exact HC0_5.out); rintro e w25 ⟨rfl, hb⟩; refine ⟨_, rfl, ?_⟩; replace HO324 := Aside0.mk (Kd.R_below (rZz HO324) hb); replace HO328 := Aside0.mk (Kd.R_below (rZz HO328) hb); replace HO333 := Aside0.mk (Kd.R_below (rZz HO333) hb); replace BK319 := Aside0.mk (blk_below (g := gb319) (o := .cells #[.slice A0_0 l0_0.length c0_0, .int .i64 a0_1, .slice A0_2 l0_2.length c0_2, .int .i64 a0_3, .int .i64 a0_4, .slice A0_5 l0_5.length c0_5] 37 (0, 0)) (kZq BK319) hb); replace BK320 := Aside0.mk (blk_below (g := gb320) (o := .cells #[.int .i64 a1_0, .int .i64 a1_1] 41 (0, 0)) (kZq BK320) hb); replace BK321 := Aside0.mk (blk_below (g := gb321) (o := .cells #[.slice none 0 0, .int .i64 0, .slice none 0 0, .int .i64 0, .int .i64 0, .slice none 0 0] 37 (0, 0)) (kZq BK321) hb); replace BK334 := Aside0.mk (blk_below (g := gb334) (o := .cells #[.slice Ao17 t322.length co17, .int .i64 t325, .slice Ao22 t326.length co22, .int .i64 t329, .int .i64 t330, .slice Ao23 t331.length co23] 37 (0, 0)) (kZq BK334) hb); replace HB := bbB hb; (try clear hb); obtain ⟨hcz26_0, hcz26_1, hcz26_2, hcz26_3, hcz26_4, hcz26_5, hfz26_0, hfz26_1, hfz26_2, hfz26_3, hfz26_4, hfz26_5⟩ := kZc6 BK319; have hnb27 := NB320_321.out; have hnc27 := NB321_320.out; obtain ⟨hcz28_0, hcz28_1, hfz28_0, hfz28_1⟩ := kZc2 BK320) | ((with_reducible refine gZc 30 (h := ?_)); refine gL 25 Try.func30 #[.slice A0_5 l0_5.length c0_5, .agg #[.int .i64 a1_0, .int .i64 a1_1, .int .i64 a2, .int .i64 a0_4]] ?_; (with_reducible refine (impl_AddEntry.calls _ _ l0_5 a1_0 a1_1 a2 a0_4 t336 true _ ?side1 ?side2 A7.out).mono ?_); (case side1 => exact cZr (Kd.C_below HR0_5.out HB.out)); (case side2 => exact HC0_5.out); rintro e w29 ⟨v337, rfl, ho0, hb⟩; refine ⟨_, rfl, ?_⟩; replace HO324 := rbB HO324 hb; replace HO328 := rbB HO328 hb; have HO338 := rnB ho0 HO333; replace HO333 := reB HO333 ho0 hb; replace BK319 := kbB BK319 hb; replace BK320 := kbB BK320 hb; replace BK321 := kbB BK321 hb; replace BK334 := kbB BK334 hb; replace HB := bbB hb; (try clear hb); (try clear ho0); obtain ⟨Ao30, co30, eo30⟩ := Kd.R_slice HO338.out; subst eo30; obtain ⟨hcz31_0, hcz31_1, hcz31_2, hcz31_3, hcz31_4, hcz31_5, hfz31_0, hfz31_1, hfz31_2, hfz31_3, hfz31_4, hfz31_5⟩ := kZc6 BK334; obtain ⟨hcz32_0, hcz32_1, hcz32_2, hcz32_3, hcz32_4, hcz32_5, hfz32_0, hfz32_1, hfz32_2, hfz32_3, hfz32_4, hfz32_5⟩ := kZc6 BK321))
   refine bodyPost_ret (results_ct rfl _ _ gb321 37 #[.slice Ao17 t322.length co17, .int .i64 t325, .slice Ao22 t326.length co22, .int .i64 t329, .int .i64 t330, .slice Ao30 t336.length co30] (0, 0) _ rfl (kZq BK321) Try.underlying37 rfl (by kernel_rfl)) rfl ?_
   exact ⟨_, _, _, EV, by (with_reducible repeat (first | apply Kd.R_alloc | apply Kd.R_drewN | apply Kd.R_drew)); exact Kd.R_mono (Kd.R_far (p := ⟨gb321, 5, none⟩) (Kd.R_far (p := ⟨gb321, 4, none⟩) (Kd.R_far (p := ⟨gb321, 3, none⟩) (Kd.R_far (p := ⟨gb321, 2, none⟩) (Kd.R_far (p := ⟨gb321, 1, none⟩) (Kd.R_far (p := ⟨gb321, 0, none⟩) (Kd.R_far (p := ⟨gb334, 5, none⟩) (Kd.R_types (Kd.R_types HO324.out BK334.out (by decide)) BK321.out (by decide)) (fun _ hk => hk.1.2) (.slice Ao30 t336.length co30)) (fun _ hk => hk.2) (.slice Ao17 t322.length co17)) (fun _ hk => hk.2) (.int .i64 t325)) (fun _ hk => hk.2) (.slice Ao22 t326.length co22)) (fun _ hk => hk.2) (.int .i64 t329)) (fun _ hk => hk.2) (.int .i64 t330)) (fun _ hk => hk.2) (.slice Ao30 t336.length co30)) (fun _ hk => trivial), by (with_reducible repeat (first | apply Kd.R_alloc | apply Kd.R_drewN | apply Kd.R_drew)); exact Kd.R_mono (Kd.R_far (p := ⟨gb321, 5, none⟩) (Kd.R_far (p := ⟨gb321, 4, none⟩) (Kd.R_far (p := ⟨gb321, 3, none⟩) (Kd.R_far (p := ⟨gb321, 2, none⟩) (Kd.R_far (p := ⟨gb321, 1, none⟩) (Kd.R_far (p := ⟨gb321, 0, none⟩) (Kd.R_far (p := ⟨gb334, 5, none⟩) (Kd.R_types (Kd.R_types HO328.out BK334.out (by decide)) BK321.out (by decide)) (fun _ hk => hk.1.2) (.slice Ao30 t336.length co30)) (fun _ hk => hk.2) (.slice Ao17 t322.length co17)) (fun _ hk => hk.2) (.int .i64 t325)) (fun _ hk => hk.2) (.slice Ao22 t326.length co22)) (fun _ hk => hk.2) (.int .i64 t329)) (fun _ hk => hk.2) (.int .i64 t330)) (fun _ hk => hk.2) (.slice Ao30 t336.length co30)) (fun _ hk => trivial), by (with_reducible repeat (first | apply Kd.R_alloc | apply Kd.R_drewN | apply Kd.R_drew)); exact Kd.R_mono (Kd.R_far (p := ⟨gb321, 5, none⟩) (Kd.R_far (p := ⟨gb321, 4, none⟩) (Kd.R_far (p := ⟨gb321, 3, none⟩) (Kd.R_far (p := ⟨gb321, 2, none⟩) (Kd.R_far (p := ⟨gb321, 1, none⟩) (Kd.R_far (p := ⟨gb321, 0, none⟩) (Kd.R_far (p := ⟨gb334, 5, none⟩) (Kd.R_types (Kd.R_types HO338.out BK334.out (by decide)) BK321.out (by decide)) (fun _ hk => hk.1.2) (.slice Ao30 t336.length co30)) (fun _ hk => hk.2) (.slice Ao17 t322.length co17)) (fun _ hk => hk.2) (.int .i64 t325)) (fun _ hk => hk.2) (.slice Ao22 t326.length co22)) (fun _ hk => hk.2) (.int .i64 t329)) (fun _ hk => hk.2) (.int .i64 t330)) (fun _ hk => hk.2) (.slice Ao30 t336.length co30)) (fun _ hk => trivial), BB⟩
  ·replace c8 := Bool.eq_false_iff.mpr c8
   subst c8
   rw [if_neg nft] at H
   simp only [Option.some.injEq, Prod.mk.injEq] at H
   obtain ⟨rfl, rfl, rfl, rfl, rfl, rfl, rfl⟩ := H
   go_enter Try.func9, Try.ntmps9
   go_wp2_with (first | ((with_reducible refine bZx 3 (h := ?_)); refine bxE #[.slice A0_0 l0_0.length c0_0, .int .i64 a0_1, .slice A0_2 l0_2.length c0_2, .int .i64 a0_3, .int .i64 a0_4, .slice A0_5 l0_5.length c0_5] 37 ?_; intro gb319 hg w33 hbox hb; have BK319 := Aside0.mk (hbox); have GE319 := szB hg; replace HB := bbB hb; clear hb hbox hg) | ((with_reducible refine bZx 4 (h := ?_)); refine bxE #[.int .i64 a1_0, .int .i64 a1_1] 41 ?_; intro gb320 hg w34 hbox hb; have BK320 := Aside0.mk (hbox); have GE320 := szB hg; replace HB := bbB hb; have NB319_320 := nlB BK319 hg; have NB320_319 := ngB BK319 hg; replace BK319 := kbB BK319 hb; clear hb hbox hg) | ((with_reducible refine bZx 6 (h := ?_)); refine bxE #[.slice none 0 0, .int .i64 0, .slice none 0 0, .int .i64 0, .int .i64 0, .slice none 0 0] 37 ?_; intro gb321 hg w35 hbox hb; have BK321 := Aside0.mk (hbox); have GE321 := szB hg; replace HB := bbB hb; have NB319_321 := nlB BK319 hg; have NB321_319 := ngB BK319 hg; replace BK319 := kbB BK319 hb; have NB320_321 := nlB BK320 hg; have NB321_320 := ngB BK320 hg; replace BK320 := kbB BK320 hb; clear hb hbox hg; have hnb36 := NB319_320.out; have hnc36 := NB320_319.out; have hnb37 := NB319_321.out; have hnc37 := NB321_319.out; obtain ⟨hcz38_0, hcz38_1, hcz38_2, hcz38_3, hcz38_4, hcz38_5, hfz38_0, hfz38_1, hfz38_2, hfz38_3, hfz38_4, hfz38_5⟩ := kZc6 BK319) | ((with_reducible refine gZc 29 (h := ?_)); refine gL 12 Try.func29 #[.agg #[.slice A0_0 l0_0.length c0_0, .int .i64 a0_1, .slice A0_2 l0_2.length c0_2, .int .i64 a0_3, .int .i64 a0_4, .slice A0_5 l0_5.length c0_5]] ?_; (with_reducible refine (impl_copyShop.calls _ _ l0_0 a0_1 _ _ l0_2 a0_3 a0_4 _ _ l0_5 t322 t325 t326 t329 t330 t331 _ ?side1 ?side2 ?side3 ?side4 ?side5 ?side6 A4.out).mono ?_); (case side1 => exact cZr (Kd.C_below HR0_0.out HB.out)); (case side2 => exact HC0_0.out); (case side3 => exact cZr (Kd.C_below HR0_2.out HB.out)); (case side4 => exact HC0_2.out); (case side5 => exact cZr (Kd.C_below HR0_5.out HB.out)); (case side6 => exact HC0_5.out); rintro e w39 ⟨v323, v327, v332, rfl, ho0, ho1, ho2, hb⟩; refine ⟨_, rfl, ?_⟩; have HO324 := rlB ho0; have HO328 := rlB ho1; have HO333 := rlB ho2; replace BK319 := kbB BK319 hb; replace BK320 := kbB BK320 hb; replace BK321 := kbB BK321 hb; replace HB := bbB hb; (try clear hb); (try clear ho0); (try clear ho1); (try clear ho2)) | ((with_reducible refine bZx 8 (h := ?_)); refine bxE #[.slice none 0 0, .int .i64 0, .slice none 0 0, .int .i64 0, .int .i64 0, .slice none 0 0] 37 ?_; intro gb334 hg w40 hbox hb; replace HO324 := rbB HO324 hb; replace HO328 := rbB HO328 hb; replace HO333 := rbB HO333 hb; have BK334 := Aside0.mk (hbox); have GE334 := szB hg; replace HB := bbB hb; have NB319_334 := nlB BK319 hg; have NB334_319 := ngB BK319 hg; replace BK319 := kbB BK319 hb; have NB320_334 := nlB BK320 hg; have NB334_320 := ngB BK320 hg; replace BK320 := kbB BK320 hb; have NB321_334 := nlB BK321 hg; have NB334_321 := ngB BK321 hg; replace BK321 := kbB BK321 hb; clear hb hbox hg; obtain ⟨Ao41, co41, eo41⟩ := Kd.R_slice HO324.out; subst eo41; have hnb42 := NB334_319.out; have hnc42 := NB319_334.out; have hnb43 := NB334_320.out; have hnc43 := NB320_334.out; have hnb44 := NB334_321.out; have hnc44 := NB321_334.out; obtain ⟨hcz45_0, hcz45_1, hcz45_2, hcz45_3, hcz45_4, hcz45_5, hfz45_0, hfz45_1, hfz45_2, hfz45_3, hfz45_4, hfz45_5⟩ := kZc6 BK334; obtain ⟨Ao46, co46, eo46⟩ := Kd.R_slice HO328.out; subst eo46; obtain ⟨Ao47, co47, eo47⟩ := Kd.R_slice HO333.out; subst eo47; obtain ⟨hcz48_0, hcz48_1, hcz48_2, hcz48_3, hcz48_4, hcz48_5, hfz48_0, hfz48_1, hfz48_2, hfz48_3, hfz48_4, hfz48_5⟩ := kZc6 BK319) | ((with_reducible refine gZc 19 (h := ?_)); refine gL 14 Try.func19 #[.agg #[.slice A0_0 l0_0.length c0_0, .int .i64 a0_1, .slice A0_2 l0_2.length c0_2, .int .i64 a0_3, .int .i64 a0_4, .slice A0_5 l0_5.length c0_5]] ?_; (with_reducible refine (impl_ShopOk.calls _ _ l0_0 a0_1 _ _ l0_2 a0_3 a0_4 _ _ l0_5 true _ ?side1 ?side2 ?side3 ?side4 ?side5 ?side6 A5.out).mono ?_); (case side1 => exact Kd.C_below HR0_0.out BB); (case side2 => exact HC0_0.out); (case side3 => exact Kd.C_below HR0_2.out BB); (case side4 => exact HC0_2.out); (case side5 => exact Kd.C_below HR0_5.out BB); (case side6 => exact HC0_5.out); rintro e w49 ⟨rfl, hb⟩; refine ⟨_, rfl, ?_⟩; replace HO324 := Aside0.mk (Kd.R_below (rZz HO324) hb); replace HO328 := Aside0.mk (Kd.R_below (rZz HO328) hb); replace HO333 := Aside0.mk (Kd.R_below (rZz HO333) hb); replace BK319 := Aside0.mk (blk_below (g := gb319) (o := .cells #[.slice A0_0 l0_0.length c0_0, .int .i64 a0_1, .slice A0_2 l0_2.length c0_2, .int .i64 a0_3, .int .i64 a0_4, .slice A0_5 l0_5.length c0_5] 37 (0, 0)) (kZq BK319) hb); replace BK320 := Aside0.mk (blk_below (g := gb320) (o := .cells #[.int .i64 a1_0, .int .i64 a1_1] 41 (0, 0)) (kZq BK320) hb); replace BK321 := Aside0.mk (blk_below (g := gb321) (o := .cells #[.slice none 0 0, .int .i64 0, .slice none 0 0, .int .i64 0, .int .i64 0, .slice none 0 0] 37 (0, 0)) (kZq BK321) hb); replace BK334 := Aside0.mk (blk_below (g := gb334) (o := .cells #[.slice Ao41 t322.length co41, .int .i64 t325, .slice Ao46 t326.length co46, .int .i64 t329, .int .i64 t330, .slice Ao47 t331.length co47] 37 (0, 0)) (kZq BK334) hb); replace HB := bbB hb; (try clear hb); obtain ⟨hcz50_0, hcz50_1, hcz50_2, hcz50_3, hcz50_4, hcz50_5, hfz50_0, hfz50_1, hfz50_2, hfz50_3, hfz50_4, hfz50_5⟩ := kZc6 BK319; have hnb51 := NB320_321.out; have hnc51 := NB321_320.out; obtain ⟨hcz52_0, hcz52_1, hfz52_0, hfz52_1⟩ := kZc2 BK320) | ((with_reducible refine gZc 30 (h := ?_)); refine gL 25 Try.func30 #[.slice A0_5 l0_5.length c0_5, .agg #[.int .i64 a1_0, .int .i64 a1_1, .int .i64 a2, .int .i64 a0_4]] ?_; (with_reducible refine (impl_AddEntry.calls _ _ l0_5 a1_0 a1_1 a2 a0_4 t336 false _ ?side1 ?side2 A7.out).mono ?_); (case side1 => exact cZr (Kd.C_below HR0_5.out HB.out)); (case side2 => exact HC0_5.out); rintro e w53 ⟨v337, rfl, ho0, hb⟩; refine ⟨_, rfl, ?_⟩; replace HO324 := rbB HO324 hb; replace HO328 := rbB HO328 hb; have HO338 := rnB ho0 HO333; replace HO333 := reB HO333 ho0 hb; replace BK319 := kbB BK319 hb; replace BK320 := kbB BK320 hb; replace BK321 := kbB BK321 hb; replace BK334 := kbB BK334 hb; replace HB := bbB hb; (try clear hb); (try clear ho0); obtain ⟨hcz54_0, hcz54_1, hcz54_2, hcz54_3, hcz54_4, hcz54_5, hfz54_0, hfz54_1, hfz54_2, hfz54_3, hfz54_4, hfz54_5⟩ := kZc6 BK334; obtain ⟨hcz55_0, hcz55_1, hcz55_2, hcz55_3, hcz55_4, hcz55_5, hfz55_0, hfz55_1, hfz55_2, hfz55_3, hfz55_4, hfz55_5⟩ := kZc6 BK321))
   refine bodyPost_ret (results_ct rfl _ _ gb321 37 #[.slice Ao41 t322.length co41, .int .i64 t325, .slice Ao46 t326.length co46, .int .i64 t329, .int .i64 t330, .slice Ao47 t331.length co47] (0, 0) _ rfl (kZq BK321) Try.underlying37 rfl (by kernel_rfl)) rfl ?_
   exact ⟨_, _, _, EV, rZz HO324, rZz HO328, rZz HO333, BB⟩
 ·replace c6 := Bool.eq_false_iff.mpr c6
  subst c6
  rw [if_neg nft] at H
  simp only [Option.some.injEq, Prod.mk.injEq] at H
  obtain ⟨rfl, rfl, rfl, rfl, rfl, rfl, rfl⟩ := H
  go_enter Try.func9, Try.ntmps9
  go_wp2_with (first | ((with_reducible refine bZx 3 (h := ?_)); refine bxE #[.slice A0_0 l0_0.length c0_0, .int .i64 a0_1, .slice A0_2 l0_2.length c0_2, .int .i64 a0_3, .int .i64 a0_4, .slice A0_5 l0_5.length c0_5] 37 ?_; intro gb319 hg w56 hbox hb; have BK319 := Aside0.mk (hbox); have GE319 := szB hg; replace HB := bbB hb; clear hb hbox hg) | ((with_reducible refine bZx 4 (h := ?_)); refine bxE #[.int .i64 a1_0, .int .i64 a1_1] 41 ?_; intro gb320 hg w57 hbox hb; have BK320 := Aside0.mk (hbox); have GE320 := szB hg; replace HB := bbB hb; have NB319_320 := nlB BK319 hg; have NB320_319 := ngB BK319 hg; replace BK319 := kbB BK319 hb; clear hb hbox hg) | ((with_reducible refine bZx 6 (h := ?_)); refine bxE #[.slice none 0 0, .int .i64 0, .slice none 0 0, .int .i64 0, .int .i64 0, .slice none 0 0] 37 ?_; intro gb321 hg w58 hbox hb; have BK321 := Aside0.mk (hbox); have GE321 := szB hg; replace HB := bbB hb; have NB319_321 := nlB BK319 hg; have NB321_319 := ngB BK319 hg; replace BK319 := kbB BK319 hb; have NB320_321 := nlB BK320 hg; have NB321_320 := ngB BK320 hg; replace BK320 := kbB BK320 hb; clear hb hbox hg; have hnb59 := NB319_320.out; have hnc59 := NB320_319.out; have hnb60 := NB319_321.out; have hnc60 := NB321_319.out; obtain ⟨hcz61_0, hcz61_1, hcz61_2, hcz61_3, hcz61_4, hcz61_5, hfz61_0, hfz61_1, hfz61_2, hfz61_3, hfz61_4, hfz61_5⟩ := kZc6 BK319) | ((with_reducible refine gZc 29 (h := ?_)); refine gL 12 Try.func29 #[.agg #[.slice A0_0 l0_0.length c0_0, .int .i64 a0_1, .slice A0_2 l0_2.length c0_2, .int .i64 a0_3, .int .i64 a0_4, .slice A0_5 l0_5.length c0_5]] ?_; (with_reducible refine (impl_copyShop.calls _ _ l0_0 a0_1 _ _ l0_2 a0_3 a0_4 _ _ l0_5 t322 t325 t326 t329 t330 t331 _ ?side1 ?side2 ?side3 ?side4 ?side5 ?side6 A4.out).mono ?_); (case side1 => exact cZr (Kd.C_below HR0_0.out HB.out)); (case side2 => exact HC0_0.out); (case side3 => exact cZr (Kd.C_below HR0_2.out HB.out)); (case side4 => exact HC0_2.out); (case side5 => exact cZr (Kd.C_below HR0_5.out HB.out)); (case side6 => exact HC0_5.out); rintro e w62 ⟨v323, v327, v332, rfl, ho0, ho1, ho2, hb⟩; refine ⟨_, rfl, ?_⟩; have HO324 := rlB ho0; have HO328 := rlB ho1; have HO333 := rlB ho2; replace BK319 := kbB BK319 hb; replace BK320 := kbB BK320 hb; replace BK321 := kbB BK321 hb; replace HB := bbB hb; (try clear hb); (try clear ho0); (try clear ho1); (try clear ho2)) | ((with_reducible refine bZx 8 (h := ?_)); refine bxE #[.slice none 0 0, .int .i64 0, .slice none 0 0, .int .i64 0, .int .i64 0, .slice none 0 0] 37 ?_; intro gb334 hg w63 hbox hb; replace HO324 := rbB HO324 hb; replace HO328 := rbB HO328 hb; replace HO333 := rbB HO333 hb; have BK334 := Aside0.mk (hbox); have GE334 := szB hg; replace HB := bbB hb; have NB319_334 := nlB BK319 hg; have NB334_319 := ngB BK319 hg; replace BK319 := kbB BK319 hb; have NB320_334 := nlB BK320 hg; have NB334_320 := ngB BK320 hg; replace BK320 := kbB BK320 hb; have NB321_334 := nlB BK321 hg; have NB334_321 := ngB BK321 hg; replace BK321 := kbB BK321 hb; clear hb hbox hg; obtain ⟨Ao64, co64, eo64⟩ := Kd.R_slice HO324.out; subst eo64; have hnb65 := NB334_319.out; have hnc65 := NB319_334.out; have hnb66 := NB334_320.out; have hnc66 := NB320_334.out; have hnb67 := NB334_321.out; have hnc67 := NB321_334.out; obtain ⟨hcz68_0, hcz68_1, hcz68_2, hcz68_3, hcz68_4, hcz68_5, hfz68_0, hfz68_1, hfz68_2, hfz68_3, hfz68_4, hfz68_5⟩ := kZc6 BK334; obtain ⟨Ao69, co69, eo69⟩ := Kd.R_slice HO328.out; subst eo69; obtain ⟨Ao70, co70, eo70⟩ := Kd.R_slice HO333.out; subst eo70; obtain ⟨hcz71_0, hcz71_1, hcz71_2, hcz71_3, hcz71_4, hcz71_5, hfz71_0, hfz71_1, hfz71_2, hfz71_3, hfz71_4, hfz71_5⟩ := kZc6 BK319) | ((with_reducible refine gZc 19 (h := ?_)); refine gL 14 Try.func19 #[.agg #[.slice A0_0 l0_0.length c0_0, .int .i64 a0_1, .slice A0_2 l0_2.length c0_2, .int .i64 a0_3, .int .i64 a0_4, .slice A0_5 l0_5.length c0_5]] ?_; (with_reducible refine (impl_ShopOk.calls _ _ l0_0 a0_1 _ _ l0_2 a0_3 a0_4 _ _ l0_5 false _ ?side1 ?side2 ?side3 ?side4 ?side5 ?side6 A5.out).mono ?_); (case side1 => exact Kd.C_below HR0_0.out BB); (case side2 => exact HC0_0.out); (case side3 => exact Kd.C_below HR0_2.out BB); (case side4 => exact HC0_2.out); (case side5 => exact Kd.C_below HR0_5.out BB); (case side6 => exact HC0_5.out); rintro e w72 ⟨rfl, hb⟩; refine ⟨_, rfl, ?_⟩; replace HO324 := Aside0.mk (Kd.R_below (rZz HO324) hb); replace HO328 := Aside0.mk (Kd.R_below (rZz HO328) hb); replace HO333 := Aside0.mk (Kd.R_below (rZz HO333) hb); replace BK319 := Aside0.mk (blk_below (g := gb319) (o := .cells #[.slice A0_0 l0_0.length c0_0, .int .i64 a0_1, .slice A0_2 l0_2.length c0_2, .int .i64 a0_3, .int .i64 a0_4, .slice A0_5 l0_5.length c0_5] 37 (0, 0)) (kZq BK319) hb); replace BK320 := Aside0.mk (blk_below (g := gb320) (o := .cells #[.int .i64 a1_0, .int .i64 a1_1] 41 (0, 0)) (kZq BK320) hb); replace BK321 := Aside0.mk (blk_below (g := gb321) (o := .cells #[.slice none 0 0, .int .i64 0, .slice none 0 0, .int .i64 0, .int .i64 0, .slice none 0 0] 37 (0, 0)) (kZq BK321) hb); replace BK334 := Aside0.mk (blk_below (g := gb334) (o := .cells #[.slice Ao64 t322.length co64, .int .i64 t325, .slice Ao69 t326.length co69, .int .i64 t329, .int .i64 t330, .slice Ao70 t331.length co70] 37 (0, 0)) (kZq BK334) hb); replace HB := bbB hb; (try clear hb); obtain ⟨hcz73_0, hcz73_1, hcz73_2, hcz73_3, hcz73_4, hcz73_5, hfz73_0, hfz73_1, hfz73_2, hfz73_3, hfz73_4, hfz73_5⟩ := kZc6 BK334; have hnb74 := NB321_320.out; have hnc74 := NB320_321.out; obtain ⟨hcz75_0, hcz75_1, hcz75_2, hcz75_3, hcz75_4, hcz75_5, hfz75_0, hfz75_1, hfz75_2, hfz75_3, hfz75_4, hfz75_5⟩ := kZc6 BK321))
  refine bodyPost_ret (results_ct rfl _ _ gb321 37 #[.slice Ao64 t322.length co64, .int .i64 t325, .slice Ao69 t326.length co69, .int .i64 t329, .int .i64 t330, .slice Ao70 t331.length co70] (0, 0) _ rfl (kZq BK321) Try.underlying37 rfl (by kernel_rfl)) rfl ?_
  exact ⟨_, _, _, EV, rZz HO324, rZz HO328, rZz HO333, BB⟩
end Go.Proofs.Ytpbhoembdoofiaa.B
namespace Go.Proofs.Ytpbhoembdoofiaa.B
open Go.RowKit Go.Proofs.YtpbhoembdoofiaaW.PrintWords Go.Proofs.YtpbhoembdoofiaaW.PrintLast Go.Proofs.YtpbhoembdoofiaaW.PrintMore Go.Proofs.YtpbhoembdoofiaaW.Zc
set_option linter.unusedVariables false
set_option linter.unusedSimpArgs false
def laws_eqWork.f (k : Nat) (l0_0 : List (S100)) (a0_1 : Int) (l0_2 : List Int) (l1_0 : List (S100)) (a1_1 : Int) (l1_2 : List Int) : Option (Bool) := (laws_eqStepS.f k l0_0 l1_0).bind fun t349 => (if t349 = true then (if a0_1 = a1_1 then ((laws_eqIntS.f k l0_2 l1_2).bind fun t350 => (if t350 = true then (some true) else (some false))) else (some false)) else (some false))
set_option maxHeartbeats 8000000 in
set_option maxRecDepth 100000 in
theorem laws_eqWork.calls (k : Nat) (A0_0 : Option Addr) (c0_0 : Nat) (l0_0 : List (S100)) (a0_1 : Int) (A0_2 : Option Addr) (c0_2 : Nat) (l0_2 : List Int) (A1_0 : Option Addr) (c1_0 : Nat) (l1_0 : List (S100)) (a1_1 : Int) (A1_2 : Option Addr) (c1_2 : Nat) (l1_2 : List Int) (r : Bool) (w : World) (hr0_0 : Kd.C k100 w A0_0 l0_0.length l0_0) (hc0_0 : l0_0.length ≤ c0_0) (hr0_2 : Kd.C (Kd.int .i64) w A0_2 l0_2.length l0_2) (hc0_2 : l0_2.length ≤ c0_2) (hr1_0 : Kd.C k100 w A1_0 l1_0.length l1_0) (hc1_0 : l1_0.length ≤ c1_0) (hr1_2 : Kd.C (Kd.int .i64) w A1_2 l1_2.length l1_2) (hc1_2 : l1_2.length ≤ c1_2) (h : laws_eqWork.f k l0_0 a0_1 l0_2 l1_0 a1_1 l1_2 = some r) :
    Calls Try.prog 31 #[.agg #[.slice A0_0 l0_0.length c0_0, .int .i64 a0_1, .slice A0_2 l0_2.length c0_2], .agg #[.slice A1_0 l1_0.length c1_0, .int .i64 a1_1, .slice A1_2 l1_2.length c1_2]] w fun e w' => e = .returned (.bool r) ∧ Below w.heap.size w w' := by
 have hu34 := Try.underlying34
 have HR0_0 := Aside0.mk hr0_0
 have HC0_0 := Aside0.mk hc0_0
 clear hr0_0 hc0_0
 have HR0_2 := Aside0.mk hr0_2
 have HC0_2 := Aside0.mk hc0_2
 clear hr0_2 hc0_2
 have HR1_0 := Aside0.mk hr1_0
 have HC1_0 := Aside0.mk hc1_0
 clear hr1_0 hc1_0
 have HR1_2 := Aside0.mk hr1_2
 have HC1_2 := Aside0.mk hc1_2
 clear hr1_2 hc1_2
 have HB := Aside0.mk (Below.refl w.heap.size w)
 have H : ((laws_eqStepS.f k l0_0 l1_0).bind fun t349 => (if t349 = true then (if a0_1 = a1_1 then ((laws_eqIntS.f k l0_2 l1_2).bind fun t350 => (if t350 = true then (some true) else (some false))) else (some false)) else (some false))) = some r := h
 clear h
 obtain ⟨t349, A3, H⟩ := bsI H
 by_cases c4 : t349 = true
 ·subst c4
  rw [if_pos rfl] at H
  by_cases c5 : a0_1 = a1_1
  ·rw [if_pos c5] at H
   have c5b0 := beqT c5
   have c5b1 := bneF c5
   clear c5
   obtain ⟨t350, A6, H⟩ := bsI H
   by_cases c7 : t350 = true
   ·subst c7
    rw [if_pos rfl] at H
    obtain rfl := Option.some.inj H
    go_enter Try.func31, Try.ntmps31
    go_wp2_with (first | ((with_reducible refine bZx 2 (h := ?_)); refine bxE #[.slice A0_0 l0_0.length c0_0, .int .i64 a0_1, .slice A0_2 l0_2.length c0_2] 34 ?_; intro gb347 hg w8 hbox hb; have BK347 := Aside0.mk (hbox); have GE347 := szB hg; replace HB := bbB hb; clear hb hbox hg) | ((with_reducible refine bZx 3 (h := ?_)); refine bxE #[.slice A1_0 l1_0.length c1_0, .int .i64 a1_1, .slice A1_2 l1_2.length c1_2] 34 ?_; intro gb348 hg w9 hbox hb; have BK348 := Aside0.mk (hbox); have GE348 := szB hg; replace HB := bbB hb; have NB347_348 := nlB BK347 hg; have NB348_347 := ngB BK347 hg; replace BK347 := kbB BK347 hb; clear hb hbox hg; have hnb10 := NB347_348.out; have hnc10 := NB348_347.out; obtain ⟨hcz11_0, hcz11_1, hcz11_2, hfz11_0, hfz11_1, hfz11_2⟩ := kZc3 BK347; obtain ⟨hcz12_0, hcz12_1, hcz12_2, hfz12_0, hfz12_1, hfz12_2⟩ := kZc3 BK348) | ((with_reducible refine gZc 59 (h := ?_)); refine gL 9 Try.func59 #[.slice A0_0 l0_0.length c0_0, .slice A1_0 l1_0.length c1_0] ?_; (with_reducible refine (laws_eqStepS.calls k _ _ l0_0 _ _ l1_0 true _ ?side1 ?side2 ?side3 ?side4 A3.out).mono ?_); (case side1 => exact cZr (Kd.C_below HR0_0.out HB.out)); (case side2 => exact HC0_0.out); (case side3 => exact cZr (Kd.C_below HR1_0.out HB.out)); (case side4 => exact HC1_0.out); rintro e w13 ⟨rfl, hb⟩; refine ⟨_, rfl, ?_⟩; replace BK347 := kbB BK347 hb; replace BK348 := kbB BK348 hb; replace HB := bbB hb; (try clear hb); obtain ⟨hcz14_0, hcz14_1, hcz14_2, hfz14_0, hfz14_1, hfz14_2⟩ := kZc3 BK347; obtain ⟨hcz15_0, hcz15_1, hcz15_2, hfz15_0, hfz15_1, hfz15_2⟩ := kZc3 BK348) | ((with_reducible refine gZc 60 (h := ?_)); refine gL 20 Try.func60 #[.slice A0_2 l0_2.length c0_2, .slice A1_2 l1_2.length c1_2] ?_; (with_reducible refine (laws_eqIntS.calls k _ _ l0_2 _ _ l1_2 true _ ?side1 ?side2 ?side3 ?side4 A6.out).mono ?_); (case side1 => exact cZr (Kd.C_below HR0_2.out HB.out)); (case side2 => exact HC0_2.out); (case side3 => exact cZr (Kd.C_below HR1_2.out HB.out)); (case side4 => exact HC1_2.out); rintro e w' ⟨rfl, ⟨nd, rfl⟩⟩; refine ⟨_, rfl, ?_⟩))
    go_ret
    exact ⟨EV, BB⟩
   ·replace c7 := Bool.eq_false_iff.mpr c7
    subst c7
    rw [if_neg nft] at H
    obtain rfl := Option.some.inj H
    go_enter Try.func31, Try.ntmps31
    go_wp2_with (first | ((with_reducible refine bZx 2 (h := ?_)); refine bxE #[.slice A0_0 l0_0.length c0_0, .int .i64 a0_1, .slice A0_2 l0_2.length c0_2] 34 ?_; intro gb347 hg w16 hbox hb; have BK347 := Aside0.mk (hbox); have GE347 := szB hg; replace HB := bbB hb; clear hb hbox hg) | ((with_reducible refine bZx 3 (h := ?_)); refine bxE #[.slice A1_0 l1_0.length c1_0, .int .i64 a1_1, .slice A1_2 l1_2.length c1_2] 34 ?_; intro gb348 hg w17 hbox hb; have BK348 := Aside0.mk (hbox); have GE348 := szB hg; replace HB := bbB hb; have NB347_348 := nlB BK347 hg; have NB348_347 := ngB BK347 hg; replace BK347 := kbB BK347 hb; clear hb hbox hg; have hnb18 := NB347_348.out; have hnc18 := NB348_347.out; obtain ⟨hcz19_0, hcz19_1, hcz19_2, hfz19_0, hfz19_1, hfz19_2⟩ := kZc3 BK347; obtain ⟨hcz20_0, hcz20_1, hcz20_2, hfz20_0, hfz20_1, hfz20_2⟩ := kZc3 BK348) | ((with_reducible refine gZc 59 (h := ?_)); refine gL 9 Try.func59 #[.slice A0_0 l0_0.length c0_0, .slice A1_0 l1_0.length c1_0] ?_; (with_reducible refine (laws_eqStepS.calls k _ _ l0_0 _ _ l1_0 true _ ?side1 ?side2 ?side3 ?side4 A3.out).mono ?_); (case side1 => exact cZr (Kd.C_below HR0_0.out HB.out)); (case side2 => exact HC0_0.out); (case side3 => exact cZr (Kd.C_below HR1_0.out HB.out)); (case side4 => exact HC1_0.out); rintro e w21 ⟨rfl, hb⟩; refine ⟨_, rfl, ?_⟩; replace BK347 := kbB BK347 hb; replace BK348 := kbB BK348 hb; replace HB := bbB hb; (try clear hb); obtain ⟨hcz22_0, hcz22_1, hcz22_2, hfz22_0, hfz22_1, hfz22_2⟩ := kZc3 BK347; obtain ⟨hcz23_0, hcz23_1, hcz23_2, hfz23_0, hfz23_1, hfz23_2⟩ := kZc3 BK348) | ((with_reducible refine gZc 60 (h := ?_)); refine gL 20 Try.func60 #[.slice A0_2 l0_2.length c0_2, .slice A1_2 l1_2.length c1_2] ?_; (with_reducible refine (laws_eqIntS.calls k _ _ l0_2 _ _ l1_2 false _ ?side1 ?side2 ?side3 ?side4 A6.out).mono ?_); (case side1 => exact cZr (Kd.C_below HR0_2.out HB.out)); (case side2 => exact HC0_2.out); (case side3 => exact cZr (Kd.C_below HR1_2.out HB.out)); (case side4 => exact HC1_2.out); rintro e w' ⟨rfl, ⟨nd, rfl⟩⟩; refine ⟨_, rfl, ?_⟩))
    go_ret
    exact ⟨EV, BB⟩
  ·rw [if_neg c5] at H
   have c5b0 := beqF c5
   have c5b1 := bneT c5
   obtain rfl := Option.some.inj H
   go_enter Try.func31, Try.ntmps31
   go_wp2_with (first | ((with_reducible refine bZx 2 (h := ?_)); refine bxE #[.slice A0_0 l0_0.length c0_0, .int .i64 a0_1, .slice A0_2 l0_2.length c0_2] 34 ?_; intro gb347 hg w24 hbox hb; have BK347 := Aside0.mk (hbox); have GE347 := szB hg; replace HB := bbB hb; clear hb hbox hg) | ((with_reducible refine bZx 3 (h := ?_)); refine bxE #[.slice A1_0 l1_0.length c1_0, .int .i64 a1_1, .slice A1_2 l1_2.length c1_2] 34 ?_; intro gb348 hg w25 hbox hb; have BK348 := Aside0.mk (hbox); have GE348 := szB hg; replace HB := bbB hb; have NB347_348 := nlB BK347 hg; have NB348_347 := ngB BK347 hg; replace BK347 := kbB BK347 hb; clear hb hbox hg; have hnb26 := NB347_348.out; have hnc26 := NB348_347.out; obtain ⟨hcz27_0, hcz27_1, hcz27_2, hfz27_0, hfz27_1, hfz27_2⟩ := kZc3 BK347; obtain ⟨hcz28_0, hcz28_1, hcz28_2, hfz28_0, hfz28_1, hfz28_2⟩ := kZc3 BK348) | ((with_reducible refine gZc 59 (h := ?_)); refine gL 9 Try.func59 #[.slice A0_0 l0_0.length c0_0, .slice A1_0 l1_0.length c1_0] ?_; (with_reducible refine (laws_eqStepS.calls k _ _ l0_0 _ _ l1_0 true _ ?side1 ?side2 ?side3 ?side4 A3.out).mono ?_); (case side1 => exact cZr (Kd.C_below HR0_0.out HB.out)); (case side2 => exact HC0_0.out); (case side3 => exact cZr (Kd.C_below HR1_0.out HB.out)); (case side4 => exact HC1_0.out); rintro e w29 ⟨rfl, hb⟩; refine ⟨_, rfl, ?_⟩; replace BK347 := kbB BK347 hb; replace BK348 := kbB BK348 hb; replace HB := bbB hb; (try clear hb); obtain ⟨hcz30_0, hcz30_1, hcz30_2, hfz30_0, hfz30_1, hfz30_2⟩ := kZc3 BK347; obtain ⟨hcz31_0, hcz31_1, hcz31_2, hfz31_0, hfz31_1, hfz31_2⟩ := kZc3 BK348))
   go_ret
   exact ⟨EV, BB⟩
 ·replace c4 := Bool.eq_false_iff.mpr c4
  subst c4
  rw [if_neg nft] at H
  obtain rfl := Option.some.inj H
  go_enter Try.func31, Try.ntmps31
  go_wp2_with (first | ((with_reducible refine bZx 2 (h := ?_)); refine bxE #[.slice A0_0 l0_0.length c0_0, .int .i64 a0_1, .slice A0_2 l0_2.length c0_2] 34 ?_; intro gb347 hg w32 hbox hb; have BK347 := Aside0.mk (hbox); have GE347 := szB hg; replace HB := bbB hb; clear hb hbox hg) | ((with_reducible refine bZx 3 (h := ?_)); refine bxE #[.slice A1_0 l1_0.length c1_0, .int .i64 a1_1, .slice A1_2 l1_2.length c1_2] 34 ?_; intro gb348 hg w33 hbox hb; have BK348 := Aside0.mk (hbox); have GE348 := szB hg; replace HB := bbB hb; have NB347_348 := nlB BK347 hg; have NB348_347 := ngB BK347 hg; replace BK347 := kbB BK347 hb; clear hb hbox hg; have hnb34 := NB347_348.out; have hnc34 := NB348_347.out; obtain ⟨hcz35_0, hcz35_1, hcz35_2, hfz35_0, hfz35_1, hfz35_2⟩ := kZc3 BK347; obtain ⟨hcz36_0, hcz36_1, hcz36_2, hfz36_0, hfz36_1, hfz36_2⟩ := kZc3 BK348) | ((with_reducible refine gZc 59 (h := ?_)); refine gL 9 Try.func59 #[.slice A0_0 l0_0.length c0_0, .slice A1_0 l1_0.length c1_0] ?_; (with_reducible refine (laws_eqStepS.calls k _ _ l0_0 _ _ l1_0 false _ ?side1 ?side2 ?side3 ?side4 A3.out).mono ?_); (case side1 => exact cZr (Kd.C_below HR0_0.out HB.out)); (case side2 => exact HC0_0.out); (case side3 => exact cZr (Kd.C_below HR1_0.out HB.out)); (case side4 => exact HC1_0.out); rintro e w37 ⟨rfl, hb⟩; refine ⟨_, rfl, ?_⟩; replace BK347 := kbB BK347 hb; replace BK348 := kbB BK348 hb; replace HB := bbB hb; (try clear hb)))
  go_ret
  exact ⟨EV, BB⟩
end Go.Proofs.Ytpbhoembdoofiaa.B
namespace Go.Proofs.Ytpbhoembdoofiaa.B
open Go.RowKit Go.Proofs.YtpbhoembdoofiaaW.PrintWords Go.Proofs.YtpbhoembdoofiaaW.PrintLast Go.Proofs.YtpbhoembdoofiaaW.PrintMore Go.Proofs.YtpbhoembdoofiaaW.Zc
set_option linter.unusedVariables false
set_option linter.unusedSimpArgs false
def laws_eqShop.f (k : Nat) (l0_0 : List (S100)) (a0_1 : Int) (l0_2 : List Int) (a0_3 : Int) (a0_4 : Int) (l0_5 : List (S61)) (l1_0 : List (S100)) (a1_1 : Int) (l1_2 : List Int) (a1_3 : Int) (a1_4 : Int) (l1_5 : List (S61)) : Option (Bool) := (laws_eqWork.f k l0_0 a0_1 l0_2 l1_0 a1_1 l1_2).bind fun t361 => (if t361 = true then (if a0_3 = a1_3 then (if a0_4 = a1_4 then ((laws_eqEntryS.f k l0_5 l1_5).bind fun t362 => (if t362 = true then (some true) else (some false))) else (some false)) else (some false)) else (some false))
set_option maxHeartbeats 8000000 in
set_option maxRecDepth 100000 in
theorem laws_eqShop.calls (k : Nat) (A0_0 : Option Addr) (c0_0 : Nat) (l0_0 : List (S100)) (a0_1 : Int) (A0_2 : Option Addr) (c0_2 : Nat) (l0_2 : List Int) (a0_3 : Int) (a0_4 : Int) (A0_5 : Option Addr) (c0_5 : Nat) (l0_5 : List (S61)) (A1_0 : Option Addr) (c1_0 : Nat) (l1_0 : List (S100)) (a1_1 : Int) (A1_2 : Option Addr) (c1_2 : Nat) (l1_2 : List Int) (a1_3 : Int) (a1_4 : Int) (A1_5 : Option Addr) (c1_5 : Nat) (l1_5 : List (S61)) (r : Bool) (w : World) (hr0_0 : Kd.C k100 w A0_0 l0_0.length l0_0) (hc0_0 : l0_0.length ≤ c0_0) (hr0_2 : Kd.C (Kd.int .i64) w A0_2 l0_2.length l0_2) (hc0_2 : l0_2.length ≤ c0_2) (hr0_5 : Kd.C k61 w A0_5 l0_5.length l0_5) (hc0_5 : l0_5.length ≤ c0_5) (hr1_0 : Kd.C k100 w A1_0 l1_0.length l1_0) (hc1_0 : l1_0.length ≤ c1_0) (hr1_2 : Kd.C (Kd.int .i64) w A1_2 l1_2.length l1_2) (hc1_2 : l1_2.length ≤ c1_2) (hr1_5 : Kd.C k61 w A1_5 l1_5.length l1_5) (hc1_5 : l1_5.length ≤ c1_5) (h : laws_eqShop.f k l0_0 a0_1 l0_2 a0_3 a0_4 l0_5 l1_0 a1_1 l1_2 a1_3 a1_4 l1_5 = some r) :
    Calls Try.prog 10 #[.agg #[.slice A0_0 l0_0.length c0_0, .int .i64 a0_1, .slice A0_2 l0_2.length c0_2, .int .i64 a0_3, .int .i64 a0_4, .slice A0_5 l0_5.length c0_5], .agg #[.slice A1_0 l1_0.length c1_0, .int .i64 a1_1, .slice A1_2 l1_2.length c1_2, .int .i64 a1_3, .int .i64 a1_4, .slice A1_5 l1_5.length c1_5]] w fun e w' => e = .returned (.bool r) ∧ Below w.heap.size w w' := by
 have hu37 := Try.underlying37
 have hu34 := Try.underlying34
 have HR0_0 := Aside0.mk hr0_0
 have HC0_0 := Aside0.mk hc0_0
 clear hr0_0 hc0_0
 have HR0_2 := Aside0.mk hr0_2
 have HC0_2 := Aside0.mk hc0_2
 clear hr0_2 hc0_2
 have HR0_5 := Aside0.mk hr0_5
 have HC0_5 := Aside0.mk hc0_5
 clear hr0_5 hc0_5
 have HR1_0 := Aside0.mk hr1_0
 have HC1_0 := Aside0.mk hc1_0
 clear hr1_0 hc1_0
 have HR1_2 := Aside0.mk hr1_2
 have HC1_2 := Aside0.mk hc1_2
 clear hr1_2 hc1_2
 have HR1_5 := Aside0.mk hr1_5
 have HC1_5 := Aside0.mk hc1_5
 clear hr1_5 hc1_5
 have HB := Aside0.mk (Below.refl w.heap.size w)
 have H : ((laws_eqWork.f k l0_0 a0_1 l0_2 l1_0 a1_1 l1_2).bind fun t361 => (if t361 = true then (if a0_3 = a1_3 then (if a0_4 = a1_4 then ((laws_eqEntryS.f k l0_5 l1_5).bind fun t362 => (if t362 = true then (some true) else (some false))) else (some false)) else (some false)) else (some false))) = some r := h
 clear h
 obtain ⟨t361, A3, H⟩ := bsI H
 by_cases c4 : t361 = true
 ·subst c4
  rw [if_pos rfl] at H
  by_cases c5 : a0_3 = a1_3
  ·rw [if_pos c5] at H
   have c5b0 := beqT c5
   have c5b1 := bneF c5
   clear c5
   by_cases c6 : a0_4 = a1_4
   ·rw [if_pos c6] at H
    have c6b0 := beqT c6
    have c6b1 := bneF c6
    clear c6
    obtain ⟨t362, A7, H⟩ := bsI H
    by_cases c8 : t362 = true
    ·subst c8
     rw [if_pos rfl] at H
     obtain rfl := Option.some.inj H
     go_enter Try.func10, Try.ntmps10
     go_wp2_with (first | ((with_reducible refine bZx 2 (h := ?_)); refine bxE #[.slice A0_0 l0_0.length c0_0, .int .i64 a0_1, .slice A0_2 l0_2.length c0_2, .int .i64 a0_3, .int .i64 a0_4, .slice A0_5 l0_5.length c0_5] 37 ?_; intro gb359 hg w9 hbox hb; have BK359 := Aside0.mk (hbox); have GE359 := szB hg; replace HB := bbB hb; clear hb hbox hg) | ((with_reducible refine bZx 3 (h := ?_)); refine bxE #[.slice A1_0 l1_0.length c1_0, .int .i64 a1_1, .slice A1_2 l1_2.length c1_2, .int .i64 a1_3, .int .i64 a1_4, .slice A1_5 l1_5.length c1_5] 37 ?_; intro gb360 hg w10 hbox hb; have BK360 := Aside0.mk (hbox); have GE360 := szB hg; replace HB := bbB hb; have NB359_360 := nlB BK359 hg; have NB360_359 := ngB BK359 hg; replace BK359 := kbB BK359 hb; clear hb hbox hg; have hnb11 := NB359_360.out; have hnc11 := NB360_359.out; obtain ⟨hcz12_0, hcz12_1, hcz12_2, hcz12_3, hcz12_4, hcz12_5, hfz12_0, hfz12_1, hfz12_2, hfz12_3, hfz12_4, hfz12_5⟩ := kZc6 BK359; obtain ⟨hcz13_0, hcz13_1, hcz13_2, hcz13_3, hcz13_4, hcz13_5, hfz13_0, hfz13_1, hfz13_2, hfz13_3, hfz13_4, hfz13_5⟩ := kZc6 BK360) | ((with_reducible refine gZc 31 (h := ?_)); refine gL 9 Try.func31 #[.agg #[.slice A0_0 l0_0.length c0_0, .int .i64 a0_1, .slice A0_2 l0_2.length c0_2], .agg #[.slice A1_0 l1_0.length c1_0, .int .i64 a1_1, .slice A1_2 l1_2.length c1_2]] ?_; (with_reducible refine (laws_eqWork.calls k _ _ l0_0 a0_1 _ _ l0_2 _ _ l1_0 a1_1 _ _ l1_2 true _ ?side1 ?side2 ?side3 ?side4 ?side5 ?side6 ?side7 ?side8 A3.out).mono ?_); (case side1 => exact cZr (Kd.C_below HR0_0.out HB.out)); (case side2 => exact HC0_0.out); (case side3 => exact cZr (Kd.C_below HR0_2.out HB.out)); (case side4 => exact HC0_2.out); (case side5 => exact cZr (Kd.C_below HR1_0.out HB.out)); (case side6 => exact HC1_0.out); (case side7 => exact cZr (Kd.C_below HR1_2.out HB.out)); (case side8 => exact HC1_2.out); rintro e w14 ⟨rfl, hb⟩; refine ⟨_, rfl, ?_⟩; replace BK359 := kbB BK359 hb; replace BK360 := kbB BK360 hb; replace HB := bbB hb; (try clear hb); obtain ⟨hcz15_0, hcz15_1, hcz15_2, hcz15_3, hcz15_4, hcz15_5, hfz15_0, hfz15_1, hfz15_2, hfz15_3, hfz15_4, hfz15_5⟩ := kZc6 BK359; obtain ⟨hcz16_0, hcz16_1, hcz16_2, hcz16_3, hcz16_4, hcz16_5, hfz16_0, hfz16_1, hfz16_2, hfz16_3, hfz16_4, hfz16_5⟩ := kZc6 BK360) | ((with_reducible refine gZc 32 (h := ?_)); refine gL 25 Try.func32 #[.slice A0_5 l0_5.length c0_5, .slice A1_5 l1_5.length c1_5] ?_; (with_reducible refine (laws_eqEntryS.calls k _ _ l0_5 _ _ l1_5 true _ ?side1 ?side2 ?side3 ?side4 A7.out).mono ?_); (case side1 => exact cZr (Kd.C_below HR0_5.out HB.out)); (case side2 => exact HC0_5.out); (case side3 => exact cZr (Kd.C_below HR1_5.out HB.out)); (case side4 => exact HC1_5.out); rintro e w17 ⟨rfl, hb⟩; refine ⟨_, rfl, ?_⟩; replace BK359 := kbB BK359 hb; replace BK360 := kbB BK360 hb; replace HB := bbB hb; (try clear hb)))
     go_ret
     exact ⟨EV, BB⟩
    ·replace c8 := Bool.eq_false_iff.mpr c8
     subst c8
     rw [if_neg nft] at H
     obtain rfl := Option.some.inj H
     go_enter Try.func10, Try.ntmps10
     go_wp2_with (first | ((with_reducible refine bZx 2 (h := ?_)); refine bxE #[.slice A0_0 l0_0.length c0_0, .int .i64 a0_1, .slice A0_2 l0_2.length c0_2, .int .i64 a0_3, .int .i64 a0_4, .slice A0_5 l0_5.length c0_5] 37 ?_; intro gb359 hg w18 hbox hb; have BK359 := Aside0.mk (hbox); have GE359 := szB hg; replace HB := bbB hb; clear hb hbox hg) | ((with_reducible refine bZx 3 (h := ?_)); refine bxE #[.slice A1_0 l1_0.length c1_0, .int .i64 a1_1, .slice A1_2 l1_2.length c1_2, .int .i64 a1_3, .int .i64 a1_4, .slice A1_5 l1_5.length c1_5] 37 ?_; intro gb360 hg w19 hbox hb; have BK360 := Aside0.mk (hbox); have GE360 := szB hg; replace HB := bbB hb; have NB359_360 := nlB BK359 hg; have NB360_359 := ngB BK359 hg; replace BK359 := kbB BK359 hb; clear hb hbox hg; have hnb20 := NB359_360.out; have hnc20 := NB360_359.out; obtain ⟨hcz21_0, hcz21_1, hcz21_2, hcz21_3, hcz21_4, hcz21_5, hfz21_0, hfz21_1, hfz21_2, hfz21_3, hfz21_4, hfz21_5⟩ := kZc6 BK359; obtain ⟨hcz22_0, hcz22_1, hcz22_2, hcz22_3, hcz22_4, hcz22_5, hfz22_0, hfz22_1, hfz22_2, hfz22_3, hfz22_4, hfz22_5⟩ := kZc6 BK360) | ((with_reducible refine gZc 31 (h := ?_)); refine gL 9 Try.func31 #[.agg #[.slice A0_0 l0_0.length c0_0, .int .i64 a0_1, .slice A0_2 l0_2.length c0_2], .agg #[.slice A1_0 l1_0.length c1_0, .int .i64 a1_1, .slice A1_2 l1_2.length c1_2]] ?_; (with_reducible refine (laws_eqWork.calls k _ _ l0_0 a0_1 _ _ l0_2 _ _ l1_0 a1_1 _ _ l1_2 true _ ?side1 ?side2 ?side3 ?side4 ?side5 ?side6 ?side7 ?side8 A3.out).mono ?_); (case side1 => exact cZr (Kd.C_below HR0_0.out HB.out)); (case side2 => exact HC0_0.out); (case side3 => exact cZr (Kd.C_below HR0_2.out HB.out)); (case side4 => exact HC0_2.out); (case side5 => exact cZr (Kd.C_below HR1_0.out HB.out)); (case side6 => exact HC1_0.out); (case side7 => exact cZr (Kd.C_below HR1_2.out HB.out)); (case side8 => exact HC1_2.out); rintro e w23 ⟨rfl, hb⟩; refine ⟨_, rfl, ?_⟩; replace BK359 := kbB BK359 hb; replace BK360 := kbB BK360 hb; replace HB := bbB hb; (try clear hb); obtain ⟨hcz24_0, hcz24_1, hcz24_2, hcz24_3, hcz24_4, hcz24_5, hfz24_0, hfz24_1, hfz24_2, hfz24_3, hfz24_4, hfz24_5⟩ := kZc6 BK359; obtain ⟨hcz25_0, hcz25_1, hcz25_2, hcz25_3, hcz25_4, hcz25_5, hfz25_0, hfz25_1, hfz25_2, hfz25_3, hfz25_4, hfz25_5⟩ := kZc6 BK360) | ((with_reducible refine gZc 32 (h := ?_)); refine gL 25 Try.func32 #[.slice A0_5 l0_5.length c0_5, .slice A1_5 l1_5.length c1_5] ?_; (with_reducible refine (laws_eqEntryS.calls k _ _ l0_5 _ _ l1_5 false _ ?side1 ?side2 ?side3 ?side4 A7.out).mono ?_); (case side1 => exact cZr (Kd.C_below HR0_5.out HB.out)); (case side2 => exact HC0_5.out); (case side3 => exact cZr (Kd.C_below HR1_5.out HB.out)); (case side4 => exact HC1_5.out); rintro e w26 ⟨rfl, hb⟩; refine ⟨_, rfl, ?_⟩; replace BK359 := kbB BK359 hb; replace BK360 := kbB BK360 hb; replace HB := bbB hb; (try clear hb)))
     go_ret
     exact ⟨EV, BB⟩
   ·rw [if_neg c6] at H
    have c6b0 := beqF c6
    have c6b1 := bneT c6
    obtain rfl := Option.some.inj H
    go_enter Try.func10, Try.ntmps10
    go_wp2_with (first | ((with_reducible refine bZx 2 (h := ?_)); refine bxE #[.slice A0_0 l0_0.length c0_0, .int .i64 a0_1, .slice A0_2 l0_2.length c0_2, .int .i64 a0_3, .int .i64 a0_4, .slice A0_5 l0_5.length c0_5] 37 ?_; intro gb359 hg w27 hbox hb; have BK359 := Aside0.mk (hbox); have GE359 := szB hg; replace HB := bbB hb; clear hb hbox hg) | ((with_reducible refine bZx 3 (h := ?_)); refine bxE #[.slice A1_0 l1_0.length c1_0, .int .i64 a1_1, .slice A1_2 l1_2.length c1_2, .int .i64 a1_3, .int .i64 a1_4, .slice A1_5 l1_5.length c1_5] 37 ?_; intro gb360 hg w28 hbox hb; have BK360 := Aside0.mk (hbox); have GE360 := szB hg; replace HB := bbB hb; have NB359_360 := nlB BK359 hg; have NB360_359 := ngB BK359 hg; replace BK359 := kbB BK359 hb; clear hb hbox hg; have hnb29 := NB359_360.out; have hnc29 := NB360_359.out; obtain ⟨hcz30_0, hcz30_1, hcz30_2, hcz30_3, hcz30_4, hcz30_5, hfz30_0, hfz30_1, hfz30_2, hfz30_3, hfz30_4, hfz30_5⟩ := kZc6 BK359; obtain ⟨hcz31_0, hcz31_1, hcz31_2, hcz31_3, hcz31_4, hcz31_5, hfz31_0, hfz31_1, hfz31_2, hfz31_3, hfz31_4, hfz31_5⟩ := kZc6 BK360) | ((with_reducible refine gZc 31 (h := ?_)); refine gL 9 Try.func31 #[.agg #[.slice A0_0 l0_0.length c0_0, .int .i64 a0_1, .slice A0_2 l0_2.length c0_2], .agg #[.slice A1_0 l1_0.length c1_0, .int .i64 a1_1, .slice A1_2 l1_2.length c1_2]] ?_; (with_reducible refine (laws_eqWork.calls k _ _ l0_0 a0_1 _ _ l0_2 _ _ l1_0 a1_1 _ _ l1_2 true _ ?side1 ?side2 ?side3 ?side4 ?side5 ?side6 ?side7 ?side8 A3.out).mono ?_); (case side1 => exact cZr (Kd.C_below HR0_0.out HB.out)); (case side2 => exact HC0_0.out); (case side3 => exact cZr (Kd.C_below HR0_2.out HB.out)); (case side4 => exact HC0_2.out); (case side5 => exact cZr (Kd.C_below HR1_0.out HB.out)); (case side6 => exact HC1_0.out); (case side7 => exact cZr (Kd.C_below HR1_2.out HB.out)); (case side8 => exact HC1_2.out); rintro e w32 ⟨rfl, hb⟩; refine ⟨_, rfl, ?_⟩; replace BK359 := kbB BK359 hb; replace BK360 := kbB BK360 hb; replace HB := bbB hb; (try clear hb); obtain ⟨hcz33_0, hcz33_1, hcz33_2, hcz33_3, hcz33_4, hcz33_5, hfz33_0, hfz33_1, hfz33_2, hfz33_3, hfz33_4, hfz33_5⟩ := kZc6 BK359; obtain ⟨hcz34_0, hcz34_1, hcz34_2, hcz34_3, hcz34_4, hcz34_5, hfz34_0, hfz34_1, hfz34_2, hfz34_3, hfz34_4, hfz34_5⟩ := kZc6 BK360))
    go_ret
    exact ⟨EV, BB⟩
  ·rw [if_neg c5] at H
   have c5b0 := beqF c5
   have c5b1 := bneT c5
   obtain rfl := Option.some.inj H
   go_enter Try.func10, Try.ntmps10
   go_wp2_with (first | ((with_reducible refine bZx 2 (h := ?_)); refine bxE #[.slice A0_0 l0_0.length c0_0, .int .i64 a0_1, .slice A0_2 l0_2.length c0_2, .int .i64 a0_3, .int .i64 a0_4, .slice A0_5 l0_5.length c0_5] 37 ?_; intro gb359 hg w35 hbox hb; have BK359 := Aside0.mk (hbox); have GE359 := szB hg; replace HB := bbB hb; clear hb hbox hg) | ((with_reducible refine bZx 3 (h := ?_)); refine bxE #[.slice A1_0 l1_0.length c1_0, .int .i64 a1_1, .slice A1_2 l1_2.length c1_2, .int .i64 a1_3, .int .i64 a1_4, .slice A1_5 l1_5.length c1_5] 37 ?_; intro gb360 hg w36 hbox hb; have BK360 := Aside0.mk (hbox); have GE360 := szB hg; replace HB := bbB hb; have NB359_360 := nlB BK359 hg; have NB360_359 := ngB BK359 hg; replace BK359 := kbB BK359 hb; clear hb hbox hg; have hnb37 := NB359_360.out; have hnc37 := NB360_359.out; obtain ⟨hcz38_0, hcz38_1, hcz38_2, hcz38_3, hcz38_4, hcz38_5, hfz38_0, hfz38_1, hfz38_2, hfz38_3, hfz38_4, hfz38_5⟩ := kZc6 BK359; obtain ⟨hcz39_0, hcz39_1, hcz39_2, hcz39_3, hcz39_4, hcz39_5, hfz39_0, hfz39_1, hfz39_2, hfz39_3, hfz39_4, hfz39_5⟩ := kZc6 BK360) | ((with_reducible refine gZc 31 (h := ?_)); refine gL 9 Try.func31 #[.agg #[.slice A0_0 l0_0.length c0_0, .int .i64 a0_1, .slice A0_2 l0_2.length c0_2], .agg #[.slice A1_0 l1_0.length c1_0, .int .i64 a1_1, .slice A1_2 l1_2.length c1_2]] ?_; (with_reducible refine (laws_eqWork.calls k _ _ l0_0 a0_1 _ _ l0_2 _ _ l1_0 a1_1 _ _ l1_2 true _ ?side1 ?side2 ?side3 ?side4 ?side5 ?side6 ?side7 ?side8 A3.out).mono ?_); (case side1 => exact cZr (Kd.C_below HR0_0.out HB.out)); (case side2 => exact HC0_0.out); (case side3 => exact cZr (Kd.C_below HR0_2.out HB.out)); (case side4 => exact HC0_2.out); (case side5 => exact cZr (Kd.C_below HR1_0.out HB.out)); (case side6 => exact HC1_0.out); (case side7 => exact cZr (Kd.C_below HR1_2.out HB.out)); (case side8 => exact HC1_2.out); rintro e w40 ⟨rfl, hb⟩; refine ⟨_, rfl, ?_⟩; replace BK359 := kbB BK359 hb; replace BK360 := kbB BK360 hb; replace HB := bbB hb; (try clear hb); obtain ⟨hcz41_0, hcz41_1, hcz41_2, hcz41_3, hcz41_4, hcz41_5, hfz41_0, hfz41_1, hfz41_2, hfz41_3, hfz41_4, hfz41_5⟩ := kZc6 BK359; obtain ⟨hcz42_0, hcz42_1, hcz42_2, hcz42_3, hcz42_4, hcz42_5, hfz42_0, hfz42_1, hfz42_2, hfz42_3, hfz42_4, hfz42_5⟩ := kZc6 BK360))
   go_ret
   exact ⟨EV, BB⟩
 ·replace c4 := Bool.eq_false_iff.mpr c4
  subst c4
  rw [if_neg nft] at H
  obtain rfl := Option.some.inj H
  go_enter Try.func10, Try.ntmps10
  go_wp2_with (first | ((with_reducible refine bZx 2 (h := ?_)); refine bxE #[.slice A0_0 l0_0.length c0_0, .int .i64 a0_1, .slice A0_2 l0_2.length c0_2, .int .i64 a0_3, .int .i64 a0_4, .slice A0_5 l0_5.length c0_5] 37 ?_; intro gb359 hg w43 hbox hb; have BK359 := Aside0.mk (hbox); have GE359 := szB hg; replace HB := bbB hb; clear hb hbox hg) | ((with_reducible refine bZx 3 (h := ?_)); refine bxE #[.slice A1_0 l1_0.length c1_0, .int .i64 a1_1, .slice A1_2 l1_2.length c1_2, .int .i64 a1_3, .int .i64 a1_4, .slice A1_5 l1_5.length c1_5] 37 ?_; intro gb360 hg w44 hbox hb; have BK360 := Aside0.mk (hbox); have GE360 := szB hg; replace HB := bbB hb; have NB359_360 := nlB BK359 hg; have NB360_359 := ngB BK359 hg; replace BK359 := kbB BK359 hb; clear hb hbox hg; have hnb45 := NB359_360.out; have hnc45 := NB360_359.out; obtain ⟨hcz46_0, hcz46_1, hcz46_2, hcz46_3, hcz46_4, hcz46_5, hfz46_0, hfz46_1, hfz46_2, hfz46_3, hfz46_4, hfz46_5⟩ := kZc6 BK359; obtain ⟨hcz47_0, hcz47_1, hcz47_2, hcz47_3, hcz47_4, hcz47_5, hfz47_0, hfz47_1, hfz47_2, hfz47_3, hfz47_4, hfz47_5⟩ := kZc6 BK360) | ((with_reducible refine gZc 31 (h := ?_)); refine gL 9 Try.func31 #[.agg #[.slice A0_0 l0_0.length c0_0, .int .i64 a0_1, .slice A0_2 l0_2.length c0_2], .agg #[.slice A1_0 l1_0.length c1_0, .int .i64 a1_1, .slice A1_2 l1_2.length c1_2]] ?_; (with_reducible refine (laws_eqWork.calls k _ _ l0_0 a0_1 _ _ l0_2 _ _ l1_0 a1_1 _ _ l1_2 false _ ?side1 ?side2 ?side3 ?side4 ?side5 ?side6 ?side7 ?side8 A3.out).mono ?_); (case side1 => exact cZr (Kd.C_below HR0_0.out HB.out)); (case side2 => exact HC0_0.out); (case side3 => exact cZr (Kd.C_below HR0_2.out HB.out)); (case side4 => exact HC0_2.out); (case side5 => exact cZr (Kd.C_below HR1_0.out HB.out)); (case side6 => exact HC1_0.out); (case side7 => exact cZr (Kd.C_below HR1_2.out HB.out)); (case side8 => exact HC1_2.out); rintro e w48 ⟨rfl, hb⟩; refine ⟨_, rfl, ?_⟩; replace BK359 := kbB BK359 hb; replace BK360 := kbB BK360 hb; replace HB := bbB hb; (try clear hb)))
  go_ret
  exact ⟨EV, BB⟩
end Go.Proofs.Ytpbhoembdoofiaa.B
namespace Go.Proofs.Ytpbhoembdoofiaa.B
open Go.RowKit Go.Proofs.YtpbhoembdoofiaaW.PrintWords Go.Proofs.YtpbhoembdoofiaaW.PrintLast Go.Proofs.YtpbhoembdoofiaaW.PrintMore Go.Proofs.YtpbhoembdoofiaaW.Zc
set_option linter.unusedVariables false
set_option linter.unusedSimpArgs false
def laws_szShop.f (l0_0 : List (S107)) (a0_1 : Int) (l0_2 : List Int) (a0_3 : Int) (a0_4 : Int) (l0_5 : List (S88)) (a1 : Int) : Option (Int) := (laws_szWork.f l0_0 a0_1 l0_2 a1).bind fun t105 => (if t105 < 0 then (some (-1)) else ((laws_szEntryS.f l0_5 t105).bind fun t106 => (if t106 < 0 then (some (-1)) else (some t106))))
set_option maxHeartbeats 8000000 in
set_option maxRecDepth 100000 in
theorem laws_szShop.calls (A0_0 : Option Addr) (c0_0 : Nat) (l0_0 : List (S107)) (a0_1 : Int) (A0_2 : Option Addr) (c0_2 : Nat) (l0_2 : List Int) (a0_3 : Int) (a0_4 : Int) (A0_5 : Option Addr) (c0_5 : Nat) (l0_5 : List (S88)) (a1 : Int) (r : Int) (w : World) (hr0_0 : Kd.C k107 w A0_0 l0_0.length l0_0) (hc0_0 : l0_0.length ≤ c0_0) (hr0_2 : Kd.C (Kd.int .i64) w A0_2 l0_2.length l0_2) (hc0_2 : l0_2.length ≤ c0_2) (hr0_5 : Kd.C k88 w A0_5 l0_5.length l0_5) (hc0_5 : l0_5.length ≤ c0_5) (h : laws_szShop.f l0_0 a0_1 l0_2 a0_3 a0_4 l0_5 a1 = some r) :
    Calls Try.prog 5 #[.agg #[.slice A0_0 l0_0.length c0_0, .int .i64 a0_1, .slice A0_2 l0_2.length c0_2, .int .i64 a0_3, .int .i64 a0_4, .slice A0_5 l0_5.length c0_5], .int .i64 a1] w fun e w' => e = .returned (.int .i64 r) ∧ Below w.heap.size w w' := by
 have hu28 := Try.underlying28
 have hu25 := Try.underlying25
 have HR0_0 := Aside0.mk hr0_0
 have HC0_0 := Aside0.mk hc0_0
 clear hr0_0 hc0_0
 have HR0_2 := Aside0.mk hr0_2
 have HC0_2 := Aside0.mk hc0_2
 clear hr0_2 hc0_2
 have HR0_5 := Aside0.mk hr0_5
 have HC0_5 := Aside0.mk hc0_5
 clear hr0_5 hc0_5
 have HB := Aside0.mk (Below.refl w.heap.size w)
 have H : ((laws_szWork.f l0_0 a0_1 l0_2 a1).bind fun t105 => (if t105 < 0 then (some (-1)) else ((laws_szEntryS.f l0_5 t105).bind fun t106 => (if t106 < 0 then (some (-1)) else (some t106))))) = some r := h
 clear h
 obtain ⟨t105, A3, H⟩ := bsI H
 by_cases c4 : t105 < 0
 ·rw [if_pos c4] at H
  have c4b0 := decide_eq_true c4
  clear c4
  obtain rfl := Option.some.inj H
  go_enter Try.func5, Try.ntmps5
  go_wp2_with (first | ((with_reducible refine bZx 2 (h := ?_)); refine bxE #[.slice A0_0 l0_0.length c0_0, .int .i64 a0_1, .slice A0_2 l0_2.length c0_2, .int .i64 a0_3, .int .i64 a0_4, .slice A0_5 l0_5.length c0_5] 28 ?_; intro gb104 hg w5 hbox hb; have BK104 := Aside0.mk (hbox); have GE104 := szB hg; replace HB := bbB hb; clear hb hbox hg; obtain ⟨hcz6_0, hcz6_1, hcz6_2, hcz6_3, hcz6_4, hcz6_5, hfz6_0, hfz6_1, hfz6_2, hfz6_3, hfz6_4, hfz6_5⟩ := kZc6 BK104) | ((with_reducible refine gZc 22 (h := ?_)); refine gL 8 Try.func22 #[.agg #[.slice A0_0 l0_0.length c0_0, .int .i64 a0_1, .slice A0_2 l0_2.length c0_2], .int .i64 a1] ?_; (with_reducible refine (laws_szWork.calls _ _ l0_0 a0_1 _ _ l0_2 a1 t105 _ ?side1 ?side2 ?side3 ?side4 A3.out).mono ?_); (case side1 => exact cZr (Kd.C_below HR0_0.out HB.out)); (case side2 => exact HC0_0.out); (case side3 => exact cZr (Kd.C_below HR0_2.out HB.out)); (case side4 => exact HC0_2.out); rintro e w7 ⟨rfl, hb⟩; refine ⟨_, rfl, ?_⟩; replace BK104 := kbB BK104 hb; replace HB := bbB hb; (try clear hb)))
  go_ret
  exact ⟨EV, BB⟩
 ·rw [if_neg c4] at H
  have c4b0 := decide_eq_false c4
  clear c4
  obtain ⟨t106, A8, H⟩ := bsI H
  by_cases c9 : t106 < 0
  ·rw [if_pos c9] at H
   have c9b0 := decide_eq_true c9
   clear c9
   obtain rfl := Option.some.inj H
   go_enter Try.func5, Try.ntmps5
   go_wp2_with (first | ((with_reducible refine bZx 2 (h := ?_)); refine bxE #[.slice A0_0 l0_0.length c0_0, .int .i64 a0_1, .slice A0_2 l0_2.length c0_2, .int .i64 a0_3, .int .i64 a0_4, .slice A0_5 l0_5.length c0_5] 28 ?_; intro gb104 hg w10 hbox hb; have BK104 := Aside0.mk (hbox); have GE104 := szB hg; replace HB := bbB hb; clear hb hbox hg; obtain ⟨hcz11_0, hcz11_1, hcz11_2, hcz11_3, hcz11_4, hcz11_5, hfz11_0, hfz11_1, hfz11_2, hfz11_3, hfz11_4, hfz11_5⟩ := kZc6 BK104) | ((with_reducible refine gZc 22 (h := ?_)); refine gL 8 Try.func22 #[.agg #[.slice A0_0 l0_0.length c0_0, .int .i64 a0_1, .slice A0_2 l0_2.length c0_2], .int .i64 a1] ?_; (with_reducible refine (laws_szWork.calls _ _ l0_0 a0_1 _ _ l0_2 a1 t105 _ ?side1 ?side2 ?side3 ?side4 A3.out).mono ?_); (case side1 => exact cZr (Kd.C_below HR0_0.out HB.out)); (case side2 => exact HC0_0.out); (case side3 => exact cZr (Kd.C_below HR0_2.out HB.out)); (case side4 => exact HC0_2.out); rintro e w12 ⟨rfl, hb⟩; refine ⟨_, rfl, ?_⟩; replace BK104 := kbB BK104 hb; replace HB := bbB hb; (try clear hb); obtain ⟨hcz13_0, hcz13_1, hcz13_2, hcz13_3, hcz13_4, hcz13_5, hfz13_0, hfz13_1, hfz13_2, hfz13_3, hfz13_4, hfz13_5⟩ := kZc6 BK104) | ((with_reducible refine gZc 23 (h := ?_)); refine gL 14 Try.func23 #[.slice A0_5 l0_5.length c0_5, .int .i64 t105] ?_; (with_reducible refine (laws_szEntryS.calls _ _ l0_5 t105 t106 _ ?side1 ?side2 A8.out).mono ?_); (case side1 => exact cZr (Kd.C_below HR0_5.out HB.out)); (case side2 => exact HC0_5.out); rintro e w' ⟨rfl, ⟨nd, rfl⟩⟩; refine ⟨_, rfl, ?_⟩))
   go_ret
   exact ⟨EV, BB⟩
  ·rw [if_neg c9] at H
   have c9b0 := decide_eq_false c9
   clear c9
   obtain rfl := Option.some.inj H
   go_enter Try.func5, Try.ntmps5
   go_wp2_with (first | ((with_reducible refine bZx 2 (h := ?_)); refine bxE #[.slice A0_0 l0_0.length c0_0, .int .i64 a0_1, .slice A0_2 l0_2.length c0_2, .int .i64 a0_3, .int .i64 a0_4, .slice A0_5 l0_5.length c0_5] 28 ?_; intro gb104 hg w14 hbox hb; have BK104 := Aside0.mk (hbox); have GE104 := szB hg; replace HB := bbB hb; clear hb hbox hg; obtain ⟨hcz15_0, hcz15_1, hcz15_2, hcz15_3, hcz15_4, hcz15_5, hfz15_0, hfz15_1, hfz15_2, hfz15_3, hfz15_4, hfz15_5⟩ := kZc6 BK104) | ((with_reducible refine gZc 22 (h := ?_)); refine gL 8 Try.func22 #[.agg #[.slice A0_0 l0_0.length c0_0, .int .i64 a0_1, .slice A0_2 l0_2.length c0_2], .int .i64 a1] ?_; (with_reducible refine (laws_szWork.calls _ _ l0_0 a0_1 _ _ l0_2 a1 t105 _ ?side1 ?side2 ?side3 ?side4 A3.out).mono ?_); (case side1 => exact cZr (Kd.C_below HR0_0.out HB.out)); (case side2 => exact HC0_0.out); (case side3 => exact cZr (Kd.C_below HR0_2.out HB.out)); (case side4 => exact HC0_2.out); rintro e w16 ⟨rfl, hb⟩; refine ⟨_, rfl, ?_⟩; replace BK104 := kbB BK104 hb; replace HB := bbB hb; (try clear hb); obtain ⟨hcz17_0, hcz17_1, hcz17_2, hcz17_3, hcz17_4, hcz17_5, hfz17_0, hfz17_1, hfz17_2, hfz17_3, hfz17_4, hfz17_5⟩ := kZc6 BK104) | ((with_reducible refine gZc 23 (h := ?_)); refine gL 14 Try.func23 #[.slice A0_5 l0_5.length c0_5, .int .i64 t105] ?_; (with_reducible refine (laws_szEntryS.calls _ _ l0_5 t105 t106 _ ?side1 ?side2 A8.out).mono ?_); (case side1 => exact cZr (Kd.C_below HR0_5.out HB.out)); (case side2 => exact HC0_5.out); rintro e w' ⟨rfl, ⟨nd, rfl⟩⟩; refine ⟨_, rfl, ?_⟩))
   go_ret
   exact ⟨EV, BB⟩
end Go.Proofs.Ytpbhoembdoofiaa.B
namespace Go.Proofs.Ytpbhoembdoofiaa.B
open Go.RowKit Go.Proofs.YtpbhoembdoofiaaW.PrintWords Go.Proofs.YtpbhoembdoofiaaW.PrintLast Go.Proofs.YtpbhoembdoofiaaW.PrintMore Go.Proofs.YtpbhoembdoofiaaW.Zc
set_option linter.unusedVariables false
set_option linter.unusedSimpArgs false
def laws_markWork.f (k : Nat) (l0_0 : List (S100)) (a0_1 : Int) (l0_2 : List Int) (a1 : Int) : Option (Int × (List (S100)) × List Int) := (laws_markStepS.f k l0_0 a1).bind fun bt369 => ((laws_markIntS.f k l0_2 bt369.1).bind fun bt371 => (some (bt371.1, bt369.2, bt371.2)))
set_option maxHeartbeats 8000000 in
set_option maxRecDepth 100000 in
theorem laws_markWork.calls (k : Nat) (P0_0_ : Nat → Prop) (u9000_ : Value) (l0_0 : List (S100)) (a0_1 : Int) (P0_2_ : Nat → Prop) (u9001_ : Value) (l0_2 : List Int) (a1 : Int) (r1 : Int) (r2 : List (S100)) (r3 : List Int) (w0 w : World) (hB : Below w0.heap.size w0 w) (ho0_0 : Kd.R k100 100 w w0.heap.size P0_0_ u9000_ l0_0) (ho0_2 : Kd.R (Kd.int .i64) 3 w w0.heap.size P0_2_ u9001_ l0_2) (h : laws_markWork.f k l0_0 a0_1 l0_2 a1 = some (r1, r2, r3)) :
    Calls Try.prog 33 #[.agg #[u9000_, .int .i64 a0_1, u9001_], .int .i64 a1] w fun e w' => e = .returned (.int .i64 r1) ∧ Kd.R k100 100 w' w0.heap.size (fun k_ => ((P0_0_ k_ ∨ P0_2_ k_) ∨ w.heap.size ≤ k_)) u9000_ r2 ∧ Kd.R (Kd.int .i64) 3 w' w0.heap.size (fun k_ => ((P0_0_ k_ ∨ P0_2_ k_) ∨ w.heap.size ≤ k_)) u9001_ r3 ∧ Below w0.heap.size w0 w' ∧ Kept w w' (fun k_ => P0_0_ k_ ∨ P0_2_ k_) := by
 have hu34 := Try.underlying34
 have HO0_0 := Aside0.mk (show Kd.R k100 100 w w0.heap.size (fun k_ => ((P0_0_ k_ ∨ P0_2_ k_) ∨ w.heap.size ≤ k_)) u9000_ l0_0 from Kd.R_mono ho0_0 (fun k_ hk => (.inl (.inl hk))))
 have HO0_2 := Aside0.mk (show Kd.R (Kd.int .i64) 3 w w0.heap.size (fun k_ => ((P0_0_ k_ ∨ P0_2_ k_) ∨ w.heap.size ≤ k_)) u9001_ l0_2 from Kd.R_mono ho0_2 (fun k_ hk => (.inl (.inr hk))))
 have HK := Aside0.mk (Kept.refl w (fun k_ => P0_0_ k_ ∨ P0_2_ k_))
 have HW0 := Aside0.mk hB.size
 have HB := Aside0.mk hB
 clear hB
 have H : ((laws_markStepS.f k l0_0 a1).bind fun bt369 => ((laws_markIntS.f k l0_2 bt369.1).bind fun bt371 => (some (bt371.1, bt369.2, bt371.2)))) = some (r1, r2, r3) := h
 clear h
 obtain ⟨⟨t369, t370⟩, A3, H⟩ := bsI H
 dsimp only at H
 obtain ⟨⟨t371, t372⟩, A4, H⟩ := bsI H
 dsimp only at H
 simp only [Option.some.injEq, Prod.mk.injEq] at H
 obtain ⟨rfl, rfl, rfl⟩ := H
 obtain ⟨Ao5, co5, eo5⟩ := Kd.R_slice HO0_0.out
 subst eo5
 obtain ⟨Ao6, co6, eo6⟩ := Kd.R_slice HO0_2.out
 subst eo6
 go_enter Try.func33, Try.ntmps33
 go_wp2_with (first | ((with_reducible refine bZx 2 (h := ?_)); refine bxE #[.slice Ao5 l0_0.length co5, .int .i64 a0_1, .slice Ao6 l0_2.length co6] 34 ?_; intro gb368 hg w7 hbox hb; replace HO0_0 := rbB HO0_0 hb; replace HO0_2 := rbB HO0_2 hb; have BK368 := Aside0.mk (hbox); have GW368 := Aside0.mk ((by rw [hg]; exact (by first | exact HK.out.1 | exact (show Kept w _ (fun k_ => P0_0_ k_ ∨ P0_2_ k_) from by repeat (first | (with_reducible first | exact HK.out | apply Kept.alloc | apply Kept.drewN | apply Kept.drew) | exact HK.out)).1) : w.heap.size ≤ gb368)); replace HK := Aside0.mk (Kept.below (S := (fun k_ => P0_0_ k_ ∨ P0_2_ k_)) (by repeat (first | (with_reducible first | exact HK.out | apply Kept.alloc | apply Kept.drewN | apply Kept.drew) | exact HK.out)) hb); have GE368 := Aside0.mk ((by rw [hg]; exact (below_size BB) : w0.heap.size ≤ gb368)); replace HB := bbB hb; clear hb hbox hg; obtain ⟨hcz8_0, hcz8_1, hcz8_2, hfz8_0, hfz8_1, hfz8_2⟩ := kZc3 BK368) | ((with_reducible refine gZc 62 (h := ?_)); refine gL 8 Try.func62 #[.slice Ao5 l0_0.length co5, .int .i64 a1] ?_; (with_reducible refine (laws_markStepS.calls k (fun k_ => some k_ = (.slice Ao5 l0_0.length co5 : Value).ownBlock) (.slice Ao5 l0_0.length co5) l0_0 a1 t369 t370 w0 _ ?side1 ?side2 A3.out).mono ?_); (case side1 => repeat (first | (with_reducible first | exact HB.out | apply below_alloc | apply pw_below_drewN | apply below_drew1 | refine below_set ?_ GE368.out) | exact HB.out)); (case side2 => exact Kd.R_tight rfl HO0_0.out); rintro e w9 ⟨rfl, hy0, hb, hkp⟩; refine ⟨_, rfl, ?_⟩; replace HO0_2 := Aside0.mk (Kd.R_mono (ok' := fun k_ => ((P0_0_ k_ ∨ P0_2_ k_) ∨ w.heap.size ≤ k_)) (Kd.R_keptB ((Kd.R_apart' HO0_2.out (Kd.R_typed HO0_0.out) (by decide))) hkp (fun k_ hk_ hs_ => (hk_.2) hs_)) (fun k_ hk_ => hk_.1.1)); replace BK368 := Aside0.mk (blk_kept (kZb BK368) hkp (fun hs_ => (fun e_ => (Kd.R_ne HO0_0.out BK368.out (by decide)) e_) hs_)); replace HK := Aside0.mk (Kept.then_ (S := (fun k_ => P0_0_ k_ ∨ P0_2_ k_)) (by repeat (first | (with_reducible first | exact HK.out | apply Kept.alloc | apply Kept.drewN | apply Kept.drew | refine Kept.setCell ?_ (.inr GW368.out) _) | exact HK.out)) hkp (fun k_ hs_ => (fun e_ => (HO0_0.out.1 k_ e_.symm)) hs_)); replace HO0_0 := Aside0.mk (Kd.R_reok rfl hy0 (fun k_ e_ => HO0_0.out.1 k_ e_)); replace HB := Aside0.mk (hb); (try clear hb); (try clear hkp); (try clear hy0); obtain ⟨hcz10_0, hcz10_1, hcz10_2, hfz10_0, hfz10_1, hfz10_2⟩ := kZc3 BK368) | ((with_reducible refine gZc 63 (h := ?_)); refine gL 12 Try.func63 #[.slice Ao6 l0_2.length co6, .int .i64 t369] ?_; (with_reducible refine (laws_markIntS.calls k (fun k_ => some k_ = (.slice Ao6 l0_2.length co6 : Value).ownBlock) (.slice Ao6 l0_2.length co6) l0_2 t369 t371 t372 w0 _ ?side1 ?side2 A4.out).mono ?_); (case side1 => repeat (first | (with_reducible first | exact HB.out | apply below_alloc | apply pw_below_drewN | apply below_drew1 | refine below_set ?_ GE368.out) | exact HB.out)); (case side2 => exact Kd.R_tight rfl HO0_2.out); rintro e w11 ⟨rfl, hy0, hb, hkp⟩; refine ⟨_, rfl, ?_⟩; replace HO0_0 := Aside0.mk (Kd.R_mono (ok' := fun k_ => ((P0_0_ k_ ∨ P0_2_ k_) ∨ w.heap.size ≤ k_)) (Kd.R_keptB ((Kd.R_apart' HO0_0.out (Kd.R_typed HO0_2.out) (by decide))) hkp (fun k_ hk_ hs_ => (hk_.2) hs_)) (fun k_ hk_ => hk_.1.1)); replace BK368 := Aside0.mk (blk_kept (kZb BK368) hkp (fun hs_ => (fun e_ => (Kd.R_ne HO0_2.out BK368.out (by decide)) e_) hs_)); replace HK := Aside0.mk (Kept.then_ (S := (fun k_ => P0_0_ k_ ∨ P0_2_ k_)) (by repeat (first | (with_reducible first | exact HK.out | apply Kept.alloc | apply Kept.drewN | apply Kept.drew | refine Kept.setCell ?_ (.inr GW368.out) _) | exact HK.out)) hkp (fun k_ hs_ => (fun e_ => (HO0_2.out.1 k_ e_.symm)) hs_)); replace HO0_2 := Aside0.mk (Kd.R_reok rfl hy0 (fun k_ e_ => HO0_2.out.1 k_ e_)); replace HB := Aside0.mk (hb); (try clear hb); (try clear hkp); (try clear hy0)))
 go_ret
 exact ⟨EV, by (with_reducible repeat (first | apply Kd.R_alloc | apply Kd.R_drewN | apply Kd.R_drew)); exact HO0_0.out, by (with_reducible repeat (first | apply Kd.R_alloc | apply Kd.R_drewN | apply Kd.R_drew)); exact HO0_2.out, BB, by repeat (first | (with_reducible first | exact HK.out | apply Kept.alloc | apply Kept.drewN | apply Kept.drew | refine Kept.setCell ?_ (.inr GW368.out) _) | exact HK.out)⟩
end Go.Proofs.Ytpbhoembdoofiaa.B
namespace Go.Proofs.Ytpbhoembdoofiaa.B
open Go.RowKit Go.Proofs.YtpbhoembdoofiaaW.PrintWords Go.Proofs.YtpbhoembdoofiaaW.PrintLast Go.Proofs.YtpbhoembdoofiaaW.PrintMore Go.Proofs.YtpbhoembdoofiaaW.Zc
set_option linter.unusedVariables false
set_option linter.unusedSimpArgs false
def laws_markShop.f (k : Nat) (l0_0 : List (S100)) (a0_1 : Int) (l0_2 : List Int) (a0_3 : Int) (a0_4 : Int) (l0_5 : List (S61)) (a1 : Int) : Option (Int × (List (S100)) × List Int × (List (S61))) := (laws_markWork.f k l0_0 a0_1 l0_2 a1).bind fun bt374 => ((laws_markEntryS.f l0_5 bt374.1).bind fun bt377 => (some (bt377.1, bt374.2.1, bt374.2.2, bt377.2)))
set_option maxHeartbeats 8000000 in
set_option maxRecDepth 100000 in
theorem laws_markShop.calls (k : Nat) (P0_0_ : Nat → Prop) (u9000_ : Value) (l0_0 : List (S100)) (a0_1 : Int) (P0_2_ : Nat → Prop) (u9001_ : Value) (l0_2 : List Int) (a0_3 : Int) (a0_4 : Int) (P0_5_ : Nat → Prop) (u9002_ : Value) (l0_5 : List (S61)) (a1 : Int) (r1 : Int) (r2 : List (S100)) (r3 : List Int) (r4 : List (S61)) (w0 w : World) (hB : Below w0.heap.size w0 w) (ho0_0 : Kd.R k100 100 w w0.heap.size P0_0_ u9000_ l0_0) (ho0_2 : Kd.R (Kd.int .i64) 3 w w0.heap.size P0_2_ u9001_ l0_2) (ho0_5 : Kd.R k61 61 w w0.heap.size P0_5_ u9002_ l0_5) (h : laws_markShop.f k l0_0 a0_1 l0_2 a0_3 a0_4 l0_5 a1 = some (r1, r2, r3, r4)) :
    Calls Try.prog 11 #[.agg #[u9000_, .int .i64 a0_1, u9001_, .int .i64 a0_3, .int .i64 a0_4, u9002_], .int .i64 a1] w fun e w' => e = .returned (.int .i64 r1) ∧ Kd.R k100 100 w' w0.heap.size (fun k_ => ((P0_0_ k_ ∨ P0_2_ k_ ∨ P0_5_ k_) ∨ w.heap.size ≤ k_)) u9000_ r2 ∧ Kd.R (Kd.int .i64) 3 w' w0.heap.size (fun k_ => ((P0_0_ k_ ∨ P0_2_ k_ ∨ P0_5_ k_) ∨ w.heap.size ≤ k_)) u9001_ r3 ∧ Kd.R k61 61 w' w0.heap.size (fun k_ => ((P0_0_ k_ ∨ P0_2_ k_ ∨ P0_5_ k_) ∨ w.heap.size ≤ k_)) u9002_ r4 ∧ Below w0.heap.size w0 w' ∧ Kept w w' (fun k_ => P0_0_ k_ ∨ P0_2_ k_ ∨ P0_5_ k_) := by
 have hu37 := Try.underlying37
 have hu34 := Try.underlying34
 have HO0_0 := Aside0.mk (show Kd.R k100 100 w w0.heap.size (fun k_ => ((P0_0_ k_ ∨ P0_2_ k_ ∨ P0_5_ k_) ∨ w.heap.size ≤ k_)) u9000_ l0_0 from Kd.R_mono ho0_0 (fun k_ hk => (.inl (.inl hk))))
 have HO0_2 := Aside0.mk (show Kd.R (Kd.int .i64) 3 w w0.heap.size (fun k_ => ((P0_0_ k_ ∨ P0_2_ k_ ∨ P0_5_ k_) ∨ w.heap.size ≤ k_)) u9001_ l0_2 from Kd.R_mono ho0_2 (fun k_ hk => (.inl (.inr (.inl hk)))))
 have HO0_5 := Aside0.mk (show Kd.R k61 61 w w0.heap.size (fun k_ => ((P0_0_ k_ ∨ P0_2_ k_ ∨ P0_5_ k_) ∨ w.heap.size ≤ k_)) u9002_ l0_5 from Kd.R_mono ho0_5 (fun k_ hk => (.inl (.inr (.inr hk)))))
 have HK := Aside0.mk (Kept.refl w (fun k_ => P0_0_ k_ ∨ P0_2_ k_ ∨ P0_5_ k_))
 have HW0 := Aside0.mk hB.size
 have HB := Aside0.mk hB
 clear hB
 have H : ((laws_markWork.f k l0_0 a0_1 l0_2 a1).bind fun bt374 => ((laws_markEntryS.f l0_5 bt374.1).bind fun bt377 => (some (bt377.1, bt374.2.1, bt374.2.2, bt377.2)))) = some (r1, r2, r3, r4) := h
 clear h
 obtain ⟨⟨t374, t375, t376⟩, A3, H⟩ := bsI H
 dsimp only at H
 obtain ⟨⟨t377, t378⟩, A4, H⟩ := bsI H
 dsimp only at H
 simp only [Option.some.injEq, Prod.mk.injEq] at H
 obtain ⟨rfl, rfl, rfl, rfl⟩ := H
 obtain ⟨Ao5, co5, eo5⟩ := Kd.R_slice HO0_0.out
 subst eo5
 obtain ⟨Ao6, co6, eo6⟩ := Kd.R_slice HO0_2.out
 subst eo6
 obtain ⟨Ao7, co7, eo7⟩ := Kd.R_slice HO0_5.out
 subst eo7
 go_enter Try.func11, Try.ntmps11
 go_wp2_with (first | ((with_reducible refine bZx 2 (h := ?_)); refine bxE #[.slice Ao5 l0_0.length co5, .int .i64 a0_1, .slice Ao6 l0_2.length co6, .int .i64 a0_3, .int .i64 a0_4, .slice Ao7 l0_5.length co7] 37 ?_; intro gb373 hg w8 hbox hb; replace HO0_0 := rbB HO0_0 hb; replace HO0_2 := rbB HO0_2 hb; replace HO0_5 := rbB HO0_5 hb; have BK373 := Aside0.mk (hbox); have GW373 := Aside0.mk ((by rw [hg]; exact (by first | exact HK.out.1 | exact (show Kept w _ (fun k_ => P0_0_ k_ ∨ P0_2_ k_ ∨ P0_5_ k_) from by repeat (first | (with_reducible first | exact HK.out | apply Kept.alloc | apply Kept.drewN | apply Kept.drew) | exact HK.out)).1) : w.heap.size ≤ gb373)); replace HK := Aside0.mk (Kept.below (S := (fun k_ => P0_0_ k_ ∨ P0_2_ k_ ∨ P0_5_ k_)) (by repeat (first | (with_reducible first | exact HK.out | apply Kept.alloc | apply Kept.drewN | apply Kept.drew) | exact HK.out)) hb); have GE373 := Aside0.mk ((by rw [hg]; exact (below_size BB) : w0.heap.size ≤ gb373)); replace HB := bbB hb; clear hb hbox hg; obtain ⟨hcz9_0, hcz9_1, hcz9_2, hcz9_3, hcz9_4, hcz9_5, hfz9_0, hfz9_1, hfz9_2, hfz9_3, hfz9_4, hfz9_5⟩ := kZc6 BK373) | ((with_reducible refine gZc 33 (h := ?_)); refine gL 8 Try.func33 #[.agg #[.slice Ao5 l0_0.length co5, .int .i64 a0_1, .slice Ao6 l0_2.length co6], .int .i64 a1] ?_; (with_reducible refine (laws_markWork.calls k (fun k_ => some k_ = (.slice Ao5 l0_0.length co5 : Value).ownBlock) (.slice Ao5 l0_0.length co5) l0_0 a0_1 (fun k_ => some k_ = (.slice Ao6 l0_2.length co6 : Value).ownBlock) (.slice Ao6 l0_2.length co6) l0_2 a1 t374 t375 t376 w0 _ ?side1 ?side2 ?side3 A3.out).mono ?_); (case side1 => repeat (first | (with_reducible first | exact HB.out | apply below_alloc | apply pw_below_drewN | apply below_drew1 | refine below_set ?_ GE373.out) | exact HB.out)); (case side2 => exact Kd.R_tight rfl HO0_0.out); (case side3 => exact Kd.R_tight rfl HO0_2.out); rintro e w10 ⟨rfl, hy0, hy1, hb, hkp⟩; refine ⟨_, rfl, ?_⟩; replace HO0_5 := Aside0.mk (Kd.R_mono (ok' := fun k_ => ((P0_0_ k_ ∨ P0_2_ k_ ∨ P0_5_ k_) ∨ w.heap.size ≤ k_)) (Kd.R_keptB ((Kd.R_apart' (Kd.R_apart' HO0_5.out (Kd.R_typed HO0_0.out) (by decide)) (Kd.R_typed HO0_2.out) (by decide))) hkp (fun k_ hk_ hs_ => Or.elim hs_ hk_.1.2 hk_.2)) (fun k_ hk_ => hk_.1.1.1)); replace BK373 := Aside0.mk (blk_kept (kZb BK373) hkp (fun hs_ => Or.elim hs_ (Kd.R_ne HO0_0.out BK373.out (by decide)) (Kd.R_ne HO0_2.out BK373.out (by decide)))); replace HK := Aside0.mk (Kept.then_ (S := (fun k_ => P0_0_ k_ ∨ P0_2_ k_ ∨ P0_5_ k_)) (by repeat (first | (with_reducible first | exact HK.out | apply Kept.alloc | apply Kept.drewN | apply Kept.drew | refine Kept.setCell ?_ (.inr GW373.out) _) | exact HK.out)) hkp (fun k_ hs_ => Or.elim hs_ (fun e_ => (fun e_ => (HO0_0.out.1 k_ e_.symm)) e_) (fun e_ => (fun e_ => (HO0_2.out.1 k_ e_.symm)) e_))); replace HO0_0 := Aside0.mk (Kd.R_reok rfl hy0 (fun k_ e_ => HO0_0.out.1 k_ e_)); replace HO0_2 := Aside0.mk (Kd.R_reok rfl hy1 (fun k_ e_ => HO0_2.out.1 k_ e_)); replace HB := Aside0.mk (hb); (try clear hb); (try clear hkp); (try clear hy0); (try clear hy1); obtain ⟨hcz11_0, hcz11_1, hcz11_2, hcz11_3, hcz11_4, hcz11_5, hfz11_0, hfz11_1, hfz11_2, hfz11_3, hfz11_4, hfz11_5⟩ := kZc6 BK373) | ((with_reducible refine gZc 34 (h := ?_)); refine gL 12 Try.func34 #[.slice Ao7 l0_5.length co7, .int .i64 t374] ?_; (with_reducible refine (laws_markEntryS.calls (fun k_ => some k_ = (.slice Ao7 l0_5.length co7 : Value).ownBlock) (.slice Ao7 l0_5.length co7) l0_5 t374 t377 t378 w0 _ ?side1 ?side2 A4.out).mono ?_); (case side1 => repeat (first | (with_reducible first | exact HB.out | apply below_alloc | apply pw_below_drewN | apply below_drew1 | refine below_set ?_ GE373.out) | exact HB.out)); (case side2 => exact Kd.R_tight rfl HO0_5.out); rintro e w12 ⟨rfl, hy0, hb, hkp⟩; refine ⟨_, rfl, ?_⟩; replace HO0_0 := Aside0.mk (Kd.R_mono (ok' := fun k_ => ((P0_0_ k_ ∨ P0_2_ k_ ∨ P0_5_ k_) ∨ w.heap.size ≤ k_)) (Kd.R_keptB ((Kd.R_apart' HO0_0.out (Kd.R_typed HO0_5.out) (by decide))) hkp (fun k_ hk_ hs_ => (hk_.2) hs_)) (fun k_ hk_ => hk_.1.1)); replace HO0_2 := Aside0.mk (Kd.R_mono (ok' := fun k_ => ((P0_0_ k_ ∨ P0_2_ k_ ∨ P0_5_ k_) ∨ w.heap.size ≤ k_)) (Kd.R_keptB ((Kd.R_apart' HO0_2.out (Kd.R_typed HO0_5.out) (by decide))) hkp (fun k_ hk_ hs_ => (hk_.2) hs_)) (fun k_ hk_ => hk_.1.1)); replace BK373 := Aside0.mk (blk_kept (kZb BK373) hkp (fun hs_ => (fun e_ => (Kd.R_ne HO0_5.out BK373.out (by decide)) e_) hs_)); replace HK := Aside0.mk (Kept.then_ (S := (fun k_ => P0_0_ k_ ∨ P0_2_ k_ ∨ P0_5_ k_)) (by repeat (first | (with_reducible first | exact HK.out | apply Kept.alloc | apply Kept.drewN | apply Kept.drew | refine Kept.setCell ?_ (.inr GW373.out) _) | exact HK.out)) hkp (fun k_ hs_ => (fun e_ => (HO0_5.out.1 k_ e_.symm)) hs_)); replace HO0_5 := Aside0.mk (Kd.R_reok rfl hy0 (fun k_ e_ => HO0_5.out.1 k_ e_)); replace HB := Aside0.mk (hb); (try clear hb); (try clear hkp); (try clear hy0)))
 go_ret
 exact ⟨EV, by (with_reducible repeat (first | apply Kd.R_alloc | apply Kd.R_drewN | apply Kd.R_drew)); exact HO0_0.out, by (with_reducible repeat (first | apply Kd.R_alloc | apply Kd.R_drewN | apply Kd.R_drew)); exact HO0_2.out, by (with_reducible repeat (first | apply Kd.R_alloc | apply Kd.R_drewN | apply Kd.R_drew)); exact HO0_5.out, BB, by repeat (first | (with_reducible first | exact HK.out | apply Kept.alloc | apply Kept.drewN | apply Kept.drew | refine Kept.setCell ?_ (.inr GW373.out) _) | exact HK.out)⟩
end Go.Proofs.Ytpbhoembdoofiaa.B
namespace Go.Proofs.Ytpbhoembdoofiaa.B
open Go.RowKit Go.Proofs.YtpbhoembdoofiaaW.PrintWords Go.Proofs.YtpbhoembdoofiaaW.PrintLast Go.Proofs.YtpbhoembdoofiaaW.PrintMore Go.Proofs.YtpbhoembdoofiaaW.Zc
set_option linter.unusedVariables false
set_option linter.unusedSimpArgs false
def laws_heldWork.f (k : Nat) (l0_0 : List (S100)) (a0_1 : Int) (l0_2 : List Int) (a1 : Int) : Option (Int) := (laws_heldStepS.f k l0_0 a1).bind fun t385 => (if t385 < 0 then (some (-1)) else ((laws_heldIntS.f k l0_2 t385).bind fun t386 => (if t386 < 0 then (some (-1)) else (some t386))))
set_option maxHeartbeats 8000000 in
set_option maxRecDepth 100000 in
theorem laws_heldWork.calls (k : Nat) (A0_0 : Option Addr) (c0_0 : Nat) (l0_0 : List (S100)) (a0_1 : Int) (A0_2 : Option Addr) (c0_2 : Nat) (l0_2 : List Int) (a1 : Int) (r : Int) (w : World) (hr0_0 : Kd.C k100 w A0_0 l0_0.length l0_0) (hc0_0 : l0_0.length ≤ c0_0) (hr0_2 : Kd.C (Kd.int .i64) w A0_2 l0_2.length l0_2) (hc0_2 : l0_2.length ≤ c0_2) (h : laws_heldWork.f k l0_0 a0_1 l0_2 a1 = some r) :
    Calls Try.prog 35 #[.agg #[.slice A0_0 l0_0.length c0_0, .int .i64 a0_1, .slice A0_2 l0_2.length c0_2], .int .i64 a1] w fun e w' => e = .returned (.int .i64 r) ∧ Below w.heap.size w w' := by
 have hu34 := Try.underlying34
 have HR0_0 := Aside0.mk hr0_0
 have HC0_0 := Aside0.mk hc0_0
 clear hr0_0 hc0_0
 have HR0_2 := Aside0.mk hr0_2
 have HC0_2 := Aside0.mk hc0_2
 clear hr0_2 hc0_2
 have HB := Aside0.mk (Below.refl w.heap.size w)
 have H : ((laws_heldStepS.f k l0_0 a1).bind fun t385 => (if t385 < 0 then (some (-1)) else ((laws_heldIntS.f k l0_2 t385).bind fun t386 => (if t386 < 0 then (some (-1)) else (some t386))))) = some r := h
 clear h
 obtain ⟨t385, A3, H⟩ := bsI H
 by_cases c4 : t385 < 0
 ·rw [if_pos c4] at H
  have c4b0 := decide_eq_true c4
  clear c4
  obtain rfl := Option.some.inj H
  go_enter Try.func35, Try.ntmps35
  go_wp2_with (first | ((with_reducible refine bZx 2 (h := ?_)); refine bxE #[.slice A0_0 l0_0.length c0_0, .int .i64 a0_1, .slice A0_2 l0_2.length c0_2] 34 ?_; intro gb384 hg w5 hbox hb; have BK384 := Aside0.mk (hbox); have GE384 := szB hg; replace HB := bbB hb; clear hb hbox hg; obtain ⟨hcz6_0, hcz6_1, hcz6_2, hfz6_0, hfz6_1, hfz6_2⟩ := kZc3 BK384) | ((with_reducible refine gZc 64 (h := ?_)); refine gL 8 Try.func64 #[.slice A0_0 l0_0.length c0_0, .int .i64 a1] ?_; (with_reducible refine (laws_heldStepS.calls k _ _ l0_0 a1 t385 _ ?side1 ?side2 A3.out).mono ?_); (case side1 => exact cZr (Kd.C_below HR0_0.out HB.out)); (case side2 => exact HC0_0.out); rintro e w' ⟨rfl, ⟨nd, rfl⟩⟩; refine ⟨_, rfl, ?_⟩))
  go_ret
  exact ⟨EV, BB⟩
 ·rw [if_neg c4] at H
  have c4b0 := decide_eq_false c4
  clear c4
  obtain ⟨t386, A7, H⟩ := bsI H
  by_cases c8 : t386 < 0
  ·rw [if_pos c8] at H
   have c8b0 := decide_eq_true c8
   clear c8
   obtain rfl := Option.some.inj H
   go_enter Try.func35, Try.ntmps35
   go_wp2_with (first | ((with_reducible refine bZx 2 (h := ?_)); refine bxE #[.slice A0_0 l0_0.length c0_0, .int .i64 a0_1, .slice A0_2 l0_2.length c0_2] 34 ?_; intro gb384 hg w9 hbox hb; have BK384 := Aside0.mk (hbox); have GE384 := szB hg; replace HB := bbB hb; clear hb hbox hg; obtain ⟨hcz10_0, hcz10_1, hcz10_2, hfz10_0, hfz10_1, hfz10_2⟩ := kZc3 BK384) | ((with_reducible refine gZc 64 (h := ?_)); refine gL 8 Try.func64 #[.slice A0_0 l0_0.length c0_0, .int .i64 a1] ?_; (with_reducible refine (laws_heldStepS.calls k _ _ l0_0 a1 t385 _ ?side1 ?side2 A3.out).mono ?_); (case side1 => exact cZr (Kd.C_below HR0_0.out HB.out)); (case side2 => exact HC0_0.out); rintro e w' ⟨rfl, ⟨nd, rfl⟩⟩; refine ⟨_, rfl, ?_⟩) | ((with_reducible refine gZc 65 (h := ?_)); refine gL 14 Try.func65 #[.slice A0_2 l0_2.length c0_2, .int .i64 t385] ?_; (with_reducible refine (laws_heldIntS.calls k _ _ l0_2 t385 t386 _ ?side1 ?side2 A7.out).mono ?_); (case side1 => exact cZr (Kd.C_below HR0_2.out BB)); (case side2 => exact HC0_2.out); rintro e w' ⟨rfl, ⟨nd, rfl⟩⟩; refine ⟨_, rfl, ?_⟩))
   go_ret
   exact ⟨EV, BB⟩
  ·rw [if_neg c8] at H
   have c8b0 := decide_eq_false c8
   clear c8
   obtain rfl := Option.some.inj H
   go_enter Try.func35, Try.ntmps35
   go_wp2_with (first | ((with_reducible refine bZx 2 (h := ?_)); refine bxE #[.slice A0_0 l0_0.length c0_0, .int .i64 a0_1, .slice A0_2 l0_2.length c0_2] 34 ?_; intro gb384 hg w11 hbox hb; have BK384 := Aside0.mk (hbox); have GE384 := szB hg; replace HB := bbB hb; clear hb hbox hg; obtain ⟨hcz12_0, hcz12_1, hcz12_2, hfz12_0, hfz12_1, hfz12_2⟩ := kZc3 BK384) | ((with_reducible refine gZc 64 (h := ?_)); refine gL 8 Try.func64 #[.slice A0_0 l0_0.length c0_0, .int .i64 a1] ?_; (with_reducible refine (laws_heldStepS.calls k _ _ l0_0 a1 t385 _ ?side1 ?side2 A3.out).mono ?_); (case side1 => exact cZr (Kd.C_below HR0_0.out HB.out)); (case side2 => exact HC0_0.out); rintro e w' ⟨rfl, ⟨nd, rfl⟩⟩; refine ⟨_, rfl, ?_⟩) | ((with_reducible refine gZc 65 (h := ?_)); refine gL 14 Try.func65 #[.slice A0_2 l0_2.length c0_2, .int .i64 t385] ?_; (with_reducible refine (laws_heldIntS.calls k _ _ l0_2 t385 t386 _ ?side1 ?side2 A7.out).mono ?_); (case side1 => exact cZr (Kd.C_below HR0_2.out BB)); (case side2 => exact HC0_2.out); rintro e w' ⟨rfl, ⟨nd, rfl⟩⟩; refine ⟨_, rfl, ?_⟩))
   go_ret
   exact ⟨EV, BB⟩
end Go.Proofs.Ytpbhoembdoofiaa.B
namespace Go.Proofs.Ytpbhoembdoofiaa.B
open Go.RowKit Go.Proofs.YtpbhoembdoofiaaW.PrintWords Go.Proofs.YtpbhoembdoofiaaW.PrintLast Go.Proofs.YtpbhoembdoofiaaW.PrintMore Go.Proofs.YtpbhoembdoofiaaW.Zc
set_option linter.unusedVariables false
set_option linter.unusedSimpArgs false
def laws_heldShop.f (k : Nat) (l0_0 : List (S100)) (a0_1 : Int) (l0_2 : List Int) (a0_3 : Int) (a0_4 : Int) (l0_5 : List (S61)) (a1 : Int) : Option (Int) := (laws_heldWork.f k l0_0 a0_1 l0_2 a1).bind fun t392 => (if t392 < 0 then (some (-1)) else ((laws_heldEntryS.f k l0_5 t392).bind fun t393 => (if t393 < 0 then (some (-1)) else (some t393))))
set_option maxHeartbeats 8000000 in
set_option maxRecDepth 100000 in
theorem laws_heldShop.calls (k : Nat) (A0_0 : Option Addr) (c0_0 : Nat) (l0_0 : List (S100)) (a0_1 : Int) (A0_2 : Option Addr) (c0_2 : Nat) (l0_2 : List Int) (a0_3 : Int) (a0_4 : Int) (A0_5 : Option Addr) (c0_5 : Nat) (l0_5 : List (S61)) (a1 : Int) (r : Int) (w : World) (hr0_0 : Kd.C k100 w A0_0 l0_0.length l0_0) (hc0_0 : l0_0.length ≤ c0_0) (hr0_2 : Kd.C (Kd.int .i64) w A0_2 l0_2.length l0_2) (hc0_2 : l0_2.length ≤ c0_2) (hr0_5 : Kd.C k61 w A0_5 l0_5.length l0_5) (hc0_5 : l0_5.length ≤ c0_5) (h : laws_heldShop.f k l0_0 a0_1 l0_2 a0_3 a0_4 l0_5 a1 = some r) :
    Calls Try.prog 12 #[.agg #[.slice A0_0 l0_0.length c0_0, .int .i64 a0_1, .slice A0_2 l0_2.length c0_2, .int .i64 a0_3, .int .i64 a0_4, .slice A0_5 l0_5.length c0_5], .int .i64 a1] w fun e w' => e = .returned (.int .i64 r) ∧ Below w.heap.size w w' := by
 have hu37 := Try.underlying37
 have hu34 := Try.underlying34
 have HR0_0 := Aside0.mk hr0_0
 have HC0_0 := Aside0.mk hc0_0
 clear hr0_0 hc0_0
 have HR0_2 := Aside0.mk hr0_2
 have HC0_2 := Aside0.mk hc0_2
 clear hr0_2 hc0_2
 have HR0_5 := Aside0.mk hr0_5
 have HC0_5 := Aside0.mk hc0_5
 clear hr0_5 hc0_5
 have HB := Aside0.mk (Below.refl w.heap.size w)
 have H : ((laws_heldWork.f k l0_0 a0_1 l0_2 a1).bind fun t392 => (if t392 < 0 then (some (-1)) else ((laws_heldEntryS.f k l0_5 t392).bind fun t393 => (if t393 < 0 then (some (-1)) else (some t393))))) = some r := h
 clear h
 obtain ⟨t392, A3, H⟩ := bsI H
 by_cases c4 : t392 < 0
 ·rw [if_pos c4] at H
  have c4b0 := decide_eq_true c4
  clear c4
  obtain rfl := Option.some.inj H
  go_enter Try.func12, Try.ntmps12
  go_wp2_with (first | ((with_reducible refine bZx 2 (h := ?_)); refine bxE #[.slice A0_0 l0_0.length c0_0, .int .i64 a0_1, .slice A0_2 l0_2.length c0_2, .int .i64 a0_3, .int .i64 a0_4, .slice A0_5 l0_5.length c0_5] 37 ?_; intro gb391 hg w5 hbox hb; have BK391 := Aside0.mk (hbox); have GE391 := szB hg; replace HB := bbB hb; clear hb hbox hg; obtain ⟨hcz6_0, hcz6_1, hcz6_2, hcz6_3, hcz6_4, hcz6_5, hfz6_0, hfz6_1, hfz6_2, hfz6_3, hfz6_4, hfz6_5⟩ := kZc6 BK391) | ((with_reducible refine gZc 35 (h := ?_)); refine gL 8 Try.func35 #[.agg #[.slice A0_0 l0_0.length c0_0, .int .i64 a0_1, .slice A0_2 l0_2.length c0_2], .int .i64 a1] ?_; (with_reducible refine (laws_heldWork.calls k _ _ l0_0 a0_1 _ _ l0_2 a1 t392 _ ?side1 ?side2 ?side3 ?side4 A3.out).mono ?_); (case side1 => exact cZr (Kd.C_below HR0_0.out HB.out)); (case side2 => exact HC0_0.out); (case side3 => exact cZr (Kd.C_below HR0_2.out HB.out)); (case side4 => exact HC0_2.out); rintro e w7 ⟨rfl, hb⟩; refine ⟨_, rfl, ?_⟩; replace BK391 := kbB BK391 hb; replace HB := bbB hb; (try clear hb)))
  go_ret
  exact ⟨EV, BB⟩
 ·rw [if_neg c4] at H
  have c4b0 := decide_eq_false c4
  clear c4
  obtain ⟨t393, A8, H⟩ := bsI H
  by_cases c9 : t393 < 0
  ·rw [if_pos c9] at H
   have c9b0 := decide_eq_true c9
   clear c9
   obtain rfl := Option.some.inj H
   go_enter Try.func12, Try.ntmps12
   go_wp2_with (first | ((with_reducible refine bZx 2 (h := ?_)); refine bxE #[.slice A0_0 l0_0.length c0_0, .int .i64 a0_1, .slice A0_2 l0_2.length c0_2, .int .i64 a0_3, .int .i64 a0_4, .slice A0_5 l0_5.length c0_5] 37 ?_; intro gb391 hg w10 hbox hb; have BK391 := Aside0.mk (hbox); have GE391 := szB hg; replace HB := bbB hb; clear hb hbox hg; obtain ⟨hcz11_0, hcz11_1, hcz11_2, hcz11_3, hcz11_4, hcz11_5, hfz11_0, hfz11_1, hfz11_2, hfz11_3, hfz11_4, hfz11_5⟩ := kZc6 BK391) | ((with_reducible refine gZc 35 (h := ?_)); refine gL 8 Try.func35 #[.agg #[.slice A0_0 l0_0.length c0_0, .int .i64 a0_1, .slice A0_2 l0_2.length c0_2], .int .i64 a1] ?_; (with_reducible refine (laws_heldWork.calls k _ _ l0_0 a0_1 _ _ l0_2 a1 t392 _ ?side1 ?side2 ?side3 ?side4 A3.out).mono ?_); (case side1 => exact cZr (Kd.C_below HR0_0.out HB.out)); (case side2 => exact HC0_0.out); (case side3 => exact cZr (Kd.C_below HR0_2.out HB.out)); (case side4 => exact HC0_2.out); rintro e w12 ⟨rfl, hb⟩; refine ⟨_, rfl, ?_⟩; replace BK391 := kbB BK391 hb; replace HB := bbB hb; (try clear hb); obtain ⟨hcz13_0, hcz13_1, hcz13_2, hcz13_3, hcz13_4, hcz13_5, hfz13_0, hfz13_1, hfz13_2, hfz13_3, hfz13_4, hfz13_5⟩ := kZc6 BK391) | ((with_reducible refine gZc 36 (h := ?_)); refine gL 14 Try.func36 #[.slice A0_5 l0_5.length c0_5, .int .i64 t392] ?_; (with_reducible refine (laws_heldEntryS.calls k _ _ l0_5 t392 t393 _ ?side1 ?side2 A8.out).mono ?_); (case side1 => exact cZr (Kd.C_below HR0_5.out HB.out)); (case side2 => exact HC0_5.out); rintro e w' ⟨rfl, ⟨nd, rfl⟩⟩; refine ⟨_, rfl, ?_⟩))
   go_ret
   exact ⟨EV, BB⟩
  ·rw [if_neg c9] at H
   have c9b0 := decide_eq_false c9
   clear c9
   obtain rfl := Option.some.inj H
   go_enter Try.func12, Try.ntmps12
   go_wp2_with (first | ((with_reducible refine bZx 2 (h := ?_)); refine bxE #[.slice A0_0 l0_0.length c0_0, .int .i64 a0_1, .slice A0_2 l0_2.length c0_2, .int .i64 a0_3, .int .i64 a0_4, .slice A0_5 l0_5.length c0_5] 37 ?_; intro gb391 hg w14 hbox hb; have BK391 := Aside0.mk (hbox); have GE391 := szB hg; replace HB := bbB hb; clear hb hbox hg; obtain ⟨hcz15_0, hcz15_1, hcz15_2, hcz15_3, hcz15_4, hcz15_5, hfz15_0, hfz15_1, hfz15_2, hfz15_3, hfz15_4, hfz15_5⟩ := kZc6 BK391) | ((with_reducible refine gZc 35 (h := ?_)); refine gL 8 Try.func35 #[.agg #[.slice A0_0 l0_0.length c0_0, .int .i64 a0_1, .slice A0_2 l0_2.length c0_2], .int .i64 a1] ?_; (with_reducible refine (laws_heldWork.calls k _ _ l0_0 a0_1 _ _ l0_2 a1 t392 _ ?side1 ?side2 ?side3 ?side4 A3.out).mono ?_); (case side1 => exact cZr (Kd.C_below HR0_0.out HB.out)); (case side2 => exact HC0_0.out); (case side3 => exact cZr (Kd.C_below HR0_2.out HB.out)); (case side4 => exact HC0_2.out); rintro e w16 ⟨rfl, hb⟩; refine ⟨_, rfl, ?_⟩; replace BK391 := kbB BK391 hb; replace HB := bbB hb; (try clear hb); obtain ⟨hcz17_0, hcz17_1, hcz17_2, hcz17_3, hcz17_4, hcz17_5, hfz17_0, hfz17_1, hfz17_2, hfz17_3, hfz17_4, hfz17_5⟩ := kZc6 BK391) | ((with_reducible refine gZc 36 (h := ?_)); refine gL 14 Try.func36 #[.slice A0_5 l0_5.length c0_5, .int .i64 t392] ?_; (with_reducible refine (laws_heldEntryS.calls k _ _ l0_5 t392 t393 _ ?side1 ?side2 A8.out).mono ?_); (case side1 => exact cZr (Kd.C_below HR0_5.out HB.out)); (case side2 => exact HC0_5.out); rintro e w' ⟨rfl, ⟨nd, rfl⟩⟩; refine ⟨_, rfl, ?_⟩))
   go_ret
   exact ⟨EV, BB⟩
end Go.Proofs.Ytpbhoembdoofiaa.B
namespace Go.Proofs.Ytpbhoembdoofiaa.B
open Go.RowKit Go.Proofs.YtpbhoembdoofiaaW.PrintWords Go.Proofs.YtpbhoembdoofiaaW.PrintLast Go.Proofs.YtpbhoembdoofiaaW.PrintMore Go.Proofs.YtpbhoembdoofiaaW.Zc
set_option linter.unusedVariables false
set_option linter.unusedSimpArgs false
theorem pw_within (x a b : Int) : impl_within.f x a b = some (inB x a b) := by
  unfold impl_within.f inB
  by_cases h : a ≤ x
  · rw [if_pos h, decide_eq_true h]; rfl
  · rw [if_neg h, decide_eq_false h]; rfl
theorem logB_len {l : List Ent} (h : logB l = true) : l.length ≤ 30 := by
  simp only [logB, Bool.and_eq_true, decide_eq_true_eq] at h
  exact h.2
theorem pw_shop_tail (lg : List Ent) (mo : Int) (hl : lg.length ≤ 30) : (if (lg.length : Int) = 0 then some true else (if 0 ≤ (wrap64 ((lg.length : Int) - 1)) then (if (wrap64 ((lg.length : Int) - 1)) < (lg.length : Int) then (some (decide (((rd_T61 lg (wrap64 ((lg.length : Int) - 1))).f2) ≤ mo))) else none) else none)) = some (lg.length == 0 || decide (lastM lg ≤ mo)) := by
  by_cases h : lg.length = 0
  · rw [if_pos (by omega), h]; rfl
  · have e : wrap64 ((lg.length : Int) - 1) = ((lg.length - 1 : Nat) : Int) := by rw [Go.IntWalk.wrap64_in _ (by omega)]; omega
    rw [if_neg (by omega), e, if_pos (by omega), if_pos (by omega), beq_false_of_ne h, Bool.false_or]
    unfold lastM rd_T61
    simp only [Int.toNat_natCast]
theorem pw_implShopOk (pl : List Stp) (d : Int) (pt : List Int) (wa mo : Int) (lg : List Ent) : impl_ShopOk.f pl d pt wa mo lg = some (shopB pl d pt wa mo lg) := by
  simp only [impl_ShopOk.f, impl_WorkOk.f, impl_LogOk.f, impl_isWarmth.f, pw_within, Option.bind_some, shopB]
  cases workB pl d pt
  · rfl
  · cases hl : logB lg
    · rfl
    · rw [pw_shop_tail lg mo (logB_len hl)]
      cases inB wa (-10) 40
      · rfl
      · cases inB mo 0 100000 <;> rfl
theorem pw_specShopOk (k : Nat) (hk : 40 ≤ k) (pl : List Stp) (d : Int) (pt : List Int) (wa mo : Int) (lg : List Ent) : spec_ShopOk.f k pl d pt wa mo lg = some (shopB pl d pt wa mo lg) := by
  simp only [spec_ShopOk.f, pw_work k pl d pt hk, spec_LogOk.f, pw_in_f, Option.bind_some, shopB]
  cases workB pl d pt
  · rfl
  · cases hl : logB lg
    · rfl
    · rw [pw_shop_tail lg mo (logB_len hl)]
      cases inB wa (-10) 40
      · rfl
      · cases inB mo 0 100000 <;> rfl
theorem pw_toShop (k : Nat) (pl : List S107) (d : Int) (pt : List Int) (wa mo : Int) (lg : List S88) (h : pl.length + pt.length + lg.length ≤ 1048576) (hk : 1048576 < k) : laws_toShop.f k pl d pt wa mo lg = some (pl.map toStp, d, pt, wa, mo, lg.map toEnt) := by
  simp only [laws_toShop.f, laws_toWork.f, pw_toStepS k pl (by omega) (by omega), pw_toIntS k pt (by omega) (by omega), pw_toEntryS k lg (by omega) (by omega), Option.bind_some]
theorem pw_eqShop (k : Nat) (pl : List S100) (d : Int) (pt : List Int) (wa mo : Int) (lg : List S61) (h : pl.length + pt.length + lg.length ≤ 1048577) (hk : 1048577 < k) : laws_eqShop.f k pl d pt wa mo lg pl d pt wa mo lg = some true := by
  simp only [laws_eqShop.f, laws_eqWork.f, pw_eqStepS k pl (by omega) (by omega), pw_eqIntS k pt (by omega) (by omega), pw_eqEntryS k lg (by omega) (by omega), Option.bind_some, if_true]
theorem pw_markShop (k : Nat) (pl : List S100) (d : Int) (pt : List Int) (wa mo : Int) (lg : List S61) (h : pl.length + pt.length + lg.length ≤ 1048577) (hk : 1048577 < k) : laws_markShop.f k pl d pt wa mo lg 1 = some (1 + 4 * (pl.length : Int) + pt.length + 4 * lg.length, mkS pl.length 1, mkI pt.length (1 + 4 * pl.length), mkE lg.length (1 + 4 * pl.length + pt.length)) := by
  simp only [laws_markShop.f, laws_markWork.f, pw_markStepS k pl 1 (by omega) (by omega) (by omega) (by omega), Option.bind_some, pw_markIntS k pt _ (by omega) (by omega : (0 : Int) ≤ 1 + 4 * pl.length) (by omega) (by omega), pw_markEntryS lg _ (by omega : (0 : Int) ≤ 1 + 4 * pl.length + pt.length) (by omega)]
theorem pw_heldShop (k : Nat) (a b c : Nat) (d wa mo : Int) (h : a + b + c ≤ 1048577) (hk : 1048577 < k) : laws_heldShop.f k (mkS a 1) d (mkI b (1 + 4 * a)) wa mo (mkE c (1 + 4 * a + b)) 1 = some (1 + 4 * (a : Int) + b + 4 * c) := by
  simp only [laws_heldShop.f, laws_heldWork.f, pw_heldStepS k a 1 (by omega) (by omega) (by omega) (by omega), Option.bind_some]
  rw [if_neg (by omega), pw_heldIntS k b _ (by omega) (by omega) (by omega) (by omega)]
  simp only [Option.bind_some]
  rw [if_neg (by omega)]
  simp only [Option.bind_some]
  rw [if_neg (by omega), pw_heldEntryS k c _ (by omega) (by omega) (by omega) (by omega)]
  simp only [Option.bind_some]
  rw [if_neg (by omega)]
theorem pw_szShop (pl : List S107) (d : Int) (pt : List Int) (wa mo : Int) (lg : List S88) (h1 : pl.length ≤ 9223372036854775807) (h2 : pt.length ≤ 9223372036854775807) (h3 : lg.length ≤ 9223372036854775807) :
    laws_szShop.f pl d pt wa mo lg 1048576 = some (if pl.length + pt.length + lg.length ≤ 1048576 then 1048576 - (pl.length + pt.length + lg.length : Int) else -1) := by
  simp only [laws_szShop.f, laws_szWork.f, laws_szStepS.f, laws_szIntS.f, laws_szEntryS.f]
  rw [Go.IntWalk.wrap64_in _ (by omega)]
  by_cases g1 : pl.length ≤ 1048576
  · rw [if_neg (by omega)]
    simp only [Option.bind_some]
    rw [if_neg (by omega), Go.IntWalk.wrap64_in _ (by omega)]
    by_cases g2 : pl.length + pt.length ≤ 1048576
    · rw [if_neg (by omega)]
      simp only [Option.bind_some]
      rw [if_neg (by omega)]
      simp only [Option.bind_some]
      rw [if_neg (by omega), Go.IntWalk.wrap64_in _ (by omega)]
      by_cases g3 : pl.length + pt.length + lg.length ≤ 1048576
      · rw [if_neg (by omega), if_pos g3]
        simp only [Option.bind_some]
        rw [if_neg (by omega)]
        congr 1
        omega
      · rw [if_pos (by omega), if_neg g3]
        simp only [Option.bind_some]
        rw [if_pos (by omega)]
    · rw [if_pos (by omega), if_neg (by omega)]
      simp
  · rw [if_pos (by omega), if_neg (by omega)]
    simp
def addB (lg : List Ent) (e : Ent) : Bool := logB lg && logB (lg ++ [e])
def addL (lg : List Ent) (e : Ent) : List Ent := if addB lg e then lg ++ [e] else lg
theorem pw_implAdd (lg : List Ent) (a b c d : Int) (h : lg.length ≤ 1048577) : impl_AddEntry.f lg a b c d = some (addL lg ⟨⟨a, b⟩, c, d⟩, addB lg ⟨⟨a, b⟩, c, d⟩) := by
  have hc : impl_copyLog.f lg = some lg := by
    simp only [impl_copyLog.f, Option.bind_some, List.length_nil, List.nil_append]
    rw [if_pos (by omega)]
  simp only [impl_AddEntry.f, hc, Option.bind_some, List.length_singleton, impl_LogOk.f, addL, addB]
  rw [if_pos (by omega)]
  by_cases h1 : logB lg = true <;> by_cases h2 : logB (lg ++ [⟨⟨a, b⟩, c, d⟩]) = true <;> simp [h1, h2]
theorem pw_specAdd (lg : List Ent) (a b c d : Int) (h : lg.length ≤ 1048577) : spec_AddEntry.f lg a b c d = some (addL lg ⟨⟨a, b⟩, c, d⟩, addB lg ⟨⟨a, b⟩, c, d⟩) := by
  have hc : spec_l34Copy.f lg = some lg := by
    simp only [spec_l34Copy.f, Option.bind_some, List.length_nil, List.nil_append]
    rw [if_pos (by omega)]
  simp only [spec_AddEntry.f, hc, Option.bind_some, List.length_singleton, spec_LogOk.f, addL, addB]
  rw [if_pos (by omega)]
  by_cases h1 : logB lg = true <;> by_cases h2 : logB (lg ++ [⟨⟨a, b⟩, c, d⟩]) = true <;> simp [h1, h2]
theorem pw_implCopy (pl : List Stp) (d : Int) (pt : List Int) (wa mo : Int) (lg : List Ent) (h : pl.length + pt.length + lg.length ≤ 1048577) : impl_copyShop.f pl d pt wa mo lg = some (pl, d, pt, wa, mo, lg) := by
  simp only [impl_copyShop.f, impl_copyWork.f, impl_copyPlan.f, impl_copyLog.f, Option.bind_some, List.length_nil, List.nil_append]
  rw [if_pos (by omega)]
  simp only [Option.bind_some]
  rw [if_pos (by omega)]
  simp only [Option.bind_some]
  rw [if_pos (by omega)]
  simp only [Option.bind_some]
theorem pw_specCopy (pl : List Stp) (d : Int) (pt : List Int) (wa mo : Int) (lg : List Ent) (h : pl.length + pt.length + lg.length ≤ 1048577) : spec_l38Copy.f pl d pt wa mo lg = some (pl, d, pt, wa, mo, lg) := by
  simp only [spec_l38Copy.f, spec_l36Copy.f, spec_l19Copy.f, spec_l02Copy.f, spec_l34Copy.f, Option.bind_some, List.length_nil, List.nil_append]
  rw [if_pos (by omega)]
  simp only [Option.bind_some]
  rw [if_pos (by omega)]
  simp only [Option.bind_some]
  rw [if_pos (by omega)]
  simp only [Option.bind_some]
def sfB (pl : List Stp) (d : Int) (pt : List Int) (wa mo : Int) (lg : List Ent) (a b c : Int) : Bool := shopB pl d pt wa mo lg && addB lg ⟨⟨a, b⟩, c, mo⟩
def sfL (pl : List Stp) (d : Int) (pt : List Int) (wa mo : Int) (lg : List Ent) (a b c : Int) : List Ent := if sfB pl d pt wa mo lg a b c then addL lg ⟨⟨a, b⟩, c, mo⟩ else lg
theorem sfL_len (pl : List Stp) (d : Int) (pt : List Int) (wa mo : Int) (lg : List Ent) (a b c : Int) : (sfL pl d pt wa mo lg a b c).length ≤ lg.length + 1 := by
  unfold sfL addL
  split
  · split <;> simp
  · omega
theorem pw_implSF (pl : List Stp) (d : Int) (pt : List Int) (wa mo : Int) (lg : List Ent) (a b c : Int) (h : pl.length + pt.length + lg.length ≤ 1048576) : impl_ShopFault.f pl d pt wa mo lg a b c = some (pl, d, pt, wa, mo, sfL pl d pt wa mo lg a b c, sfB pl d pt wa mo lg a b c) := by
  simp only [impl_ShopFault.f, pw_implCopy pl d pt wa mo lg (by omega), pw_implShopOk, pw_implAdd lg _ _ _ _ (by omega), Option.bind_some, sfB, sfL]
  by_cases h1 : shopB pl d pt wa mo lg = true <;> by_cases h2 : addB lg ⟨⟨a, b⟩, c, mo⟩ = true <;> simp [h1, h2]
theorem pw_specSF (k : Nat) (hk : 40 ≤ k) (pl : List Stp) (d : Int) (pt : List Int) (wa mo : Int) (lg : List Ent) (a b c : Int) (h : pl.length + pt.length + lg.length ≤ 1048576) : spec_ShopFault.f k pl d pt wa mo lg a b c = some (pl, d, pt, wa, mo, sfL pl d pt wa mo lg a b c, sfB pl d pt wa mo lg a b c) := by
  simp only [spec_ShopFault.f, pw_specCopy pl d pt wa mo lg (by omega), pw_specShopOk k hk, pw_specAdd lg _ _ _ _ (by omega), Option.bind_some, sfB, sfL]
  by_cases h1 : shopB pl d pt wa mo lg = true <;> by_cases h2 : addB lg ⟨⟨a, b⟩, c, mo⟩ = true <;> simp [h1, h2]
end Go.Proofs.Ytpbhoembdoofiaa.B
