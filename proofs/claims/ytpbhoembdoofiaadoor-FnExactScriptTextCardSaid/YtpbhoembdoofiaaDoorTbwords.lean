/- impl.FormatInt and impl.words: decimal numerals, joined by blanks. Conditions: none but those that each statement names. -/
import Derived.Test.YtpbhoembdoofiaaDoorShelf
import Derived.Laws.AppendOwn
import Derived.Lib.AppendIntMem
import Derived.ProofKit
import Derived.Lib.Hide
import Derived.Sort.Grow
import Derived.LoopTactic
import Derived.Lib.ItoaLen
import Derived.Maps.AppendAt
import Derived.Test.YtpbhoembdoofiaaDoorTaact
namespace Go.Proofs.YtpbhoembdoofiaaDoor.T
open Go.RowKit
set_option linter.unusedVariables false
set_option linter.unusedSimpArgs false
def Tab (w : World) : Prop := Lib.TabIs Tryd.prog w "internal/strconv.uint64pow10" .u64 Lib.pow10Tab
theorem Tab.below {w w1 : World} (h : Tab w) (hb : Below w.heap.size w w1) : Tab w1 := Lib.tabBelow_of_tabIs h w1 hb
theorem below_grow (w : World) (k : Nat) (os : Array Obj) : Below w.heap.size w (Sort.grow (w.drewN k) os) :=
  ⟨rfl, rfl, rfl, by simp [Sort.grow, World.drewN], fun i hi => by
    show (w.heap ++ os)[i]? = w.heap[i]?
    rw [Array.getElem?_append_left hi]⟩
theorem FormatInt_any (n : Int) (h0 : -1000000000 ≤ n) (h1 : n ≤ 1000000000) (w : World) (hT : Tab w) :
    Calls Tryd.prog 19 #[.int .i64 n] w fun e w' => e = .returned (.string ⟨(Lib.itoa n).toArray⟩) ∧ Below w.heap.size w w' := by
  have hc := Tryd.strconv_Itoa n (by omega) (by omega) w hT
  have HC : Hid (Calls Tryd.prog 41 #[.int .i64 n] w fun e w' => e = .returned (.string ⟨(Lib.itoa n).toArray⟩) ∧ Below w.heap.size w w') := Lib.hid (hc.mono fun e w' ⟨he, k, os, hw⟩ => ⟨he, hw ▸ below_grow w k os⟩)
  clear hc
  go_enter Tryd.func19, Tryd.ntmps19
  go_wp2_with (go_at_call 41; refine HC.out.mono ?_; rintro e w' ⟨rfl, hb⟩)
  go_ret
  exact ⟨rfl, hb⟩
theorem bT {w w1 W : World} (h : Hid (Tab w1)) (k : Below w1.heap.size w1 W := by (with_reducible repeat (first | exact Below.refl _ _ | refine below_al ?_ _ | refine below_drN ?_ _ | refine below_dr ?_))) : Tab W := h.out.below k
abbrev strV (l : List UInt8) : Value := .string ⟨l.toArray⟩
def wordsB (xs : List Int) : List UInt8 := Lib.join (xs.map Lib.itoa) [32]
theorem strInfo : (Tryd.prog.info? 9).map (fun i => (i.zero, i.size, i.bytes)) = some (some (.string ⟨#[]⟩), 1, 16) := by kernel_rfl
theorem take_snoc (xs : List Int) (k : Nat) (h : k < xs.length) : (xs.take (k + 1)).map (fun x => strV (Lib.itoa x)) = (xs.take k).map (fun x => strV (Lib.itoa x)) ++ [strV (Lib.itoa (xs.getD k 0))] := by
  rw [List.take_succ_eq_append_getElem h, List.map_append, List.getD_eq_getElem?_getD, List.getElem?_eq_getElem h]
  rfl
theorem one_cell {W : World} {v : Value} {t : Nat} : ∀ j u, [v][j]? = some u → (W.alloc (.cells #[v] t (0, 0))).cell? ((⟨W.heap.size, 0, none⟩ : Addr).add j) = some u := by
  intro j u h
  cases j with
  | zero => simp at h; subst h; simp [Addr.add, World.cell?_alloc_new]
  | succ j => simp at h
theorem below_own {w W w1 : World} {v : Value} {e n : Nat} {xs : List Value} (hb : Below w.heap.size w W) (ho : W.ownsRow w.heap.size e 1 v n xs) (hg : W.grownBy w1 v.ownBlock) : Below w.heap.size w w1 :=
  hb.trans ⟨hg.os, hg.tape, hg.output, hg.size, fun k hk => hg.block k (Nat.lt_of_lt_of_le hk hb.size) (fun e => by have := ho.lt k e.symm; omega)⟩
theorem own_on {w W w1 : World} {v : Value} {e n : Nat} {xs : List Value} (ho : W.ownsRow w.heap.size e 1 v n xs) (hb : Below W.heap.size W w1) : w1.ownsRow w.heap.size e 1 v n xs := by
  obtain ⟨h1, h2⟩ := ho
  refine ⟨h1, ?_⟩
  rcases h2 with h2 | ⟨g, cap, cur, rfl, hg, hh, r⟩
  · exact .inl h2
  · refine .inr ⟨g, cap, cur, rfl, hg, ?_, r⟩
    rw [hb.block g (Array.getElem?_eq_some_iff.1 hh).1]
    exact hh
theorem join_len (l : List (List UInt8)) (h : ∀ x ∈ l, x.length ≤ 21) : (Lib.join l [32]).length ≤ 22 * l.length := by
  unfold Lib.join
  induction l with
  | nil => simp
  | cons x r ih =>
    have hx := h x (List.mem_cons_self ..)
    have hr := ih (fun y hy => h y (List.mem_cons_of_mem _ hy))
    cases r with
    | nil => simp; omega
    | cons y r =>
      rw [List.intercalate_cons_cons]
      simp only [List.length_append, List.length_cons, List.length_nil] at hr ⊢
      omega
theorem wordsB_len (xs : List Int) (hn : xs.length ≤ 100) (hx : ∀ x ∈ xs, -1000000000 ≤ x ∧ x ≤ 1000000000) : (wordsB xs).length ≤ 2200 := by
  have h := join_len (xs.map Lib.itoa) (fun y hy => by
    obtain ⟨x, hx', rfl⟩ := List.mem_map.1 hy
    have := hx x hx'
    exact Lib.itoa_length_le x (by omega) (by omega))
  rw [List.length_map] at h
  unfold wordsB
  omega
set_option maxHeartbeats 1000000 in
set_option maxRecDepth 100000 in
theorem words_any (bk o c : Nat) (xs : List Int) (w : World) (hT : Tab w) (hx : ∀ x ∈ xs, -1000000000 ≤ x ∧ x ≤ 1000000000) (hn : xs.length ≤ 100) (hp : 0 < xs.length) (hc : xs.length ≤ c) (hbk : bk < w.heap.size)
    (hr : ∀ j x, xs[j]? = some x → w.cell? ⟨bk, o + j, none⟩ = some (.int .i64 x)) :
    Calls Tryd.prog 34 #[.slice (some ⟨bk, o, none⟩) xs.length c] w fun e w' => e = .returned (.string ⟨(wordsB xs).toArray⟩) ∧ Below w.heap.size w w' := by
  obtain ⟨i0, hi, hz0, hz1, hz2⟩ := info_parts strInfo
  have HT := Lib.hid hT
  have HX := Lib.hid hx
  have HR := Lib.hid hr
  have HK := Lib.hid hbk
  clear hT hx hr hbk
  go_enter Tryd.func34, Tryd.ntmps34
  go_wp2
  go_loopw [3, 9] (fun v i wr => ∃ k : Nat, k ≤ xs.length ∧ i = .int .i64 k ∧ Hid (wr.ownsRow w.heap.size 9 1 v k ((xs.take k).map fun x => strV (Lib.itoa x))) ∧ Hid (Below w.heap.size w wr)) (fun _ i _ => xs.length - (intOf i).toNat)
  case atStart => exact ⟨0, Nat.zero_le _, rfl, Lib.hid (World.ownsRow_made _ _ _ (Nat.le_refl _) (by decide) rfl), Lib.hid ((Below.refl _ _).alloc (Nat.le_refl _) _)⟩
  case round =>
    obtain ⟨k, hk, rfl, HO, HB⟩ := hrel
    by_cases hlt : k < xs.length
    · have hx := HX.out (xs.getD k 0) (by rw [List.getD_eq_getElem?_getD, List.getElem?_eq_getElem hlt]; exact List.getElem_mem hlt)
      have hcell : wr.cell? ⟨bk, o + k, none⟩ = some (.int .i64 (xs.getD k 0)) := by
        rw [HB.out.cell (p := ⟨bk, o + k, none⟩) HK.out]
        exact HR.out k _ (by rw [List.getD_eq_getElem?_getD, List.getElem?_eq_getElem hlt]; rfl)
      have HT1 := Lib.hid (HT.out.below HB.out)
      obtain ⟨x, HE⟩ : ∃ x, Hid (x = xs.getD k 0) := ⟨_, Lib.hid rfl⟩
      rw [← HE.out] at hx hcell
      have HS := Lib.hid (take_snoc xs k hlt)
      rw [← HE.out] at HS
      obtain ⟨hx0, hx1⟩ := hx
      go_wp2_with (first | (go_at_call 19; refine (FormatInt_any x hx0 hx1 _ HT1.out).mono ?_; rintro e w1 ⟨rfl, hb⟩; have HO1 := Lib.hid (own_on HO.out hb); have HB1 := Lib.hid (HB.out.trans (hb.mono HB.out.size)); clear hb) | (at_builtin; refine wpList_append_own _ rfl _ _ 47 rfl w.heap.size 9 i0 (.string ⟨#[]⟩) 1 16 Tryd.underlying47 hi hz0 hz1 hz2 rfl (by decide) _ _ _ rfl (HO1.out.alloc _) ⟨w1.heap.size, 0, none⟩ 1 1 [strV (Lib.itoa x)] rfl rfl one_cell (by simp [strV, Value.oneCell']) (by unfold maxLen; omega) (by omega) (by have := HB1.out.size; simp; omega) ?_; intro v' w2 hown hgrow _; have HO2 := Lib.hid hown; have HB2 := Lib.hid (below_own (HB1.out.alloc HB1.out.size _) (HO1.out.alloc _) hgrow); clear hown hgrow))
      go_roundw
      case rel => exact ⟨k + 1, by omega, by go_num, Lib.hid (by rw [HS.out]; exact HO2.out), HB2⟩
      case measure => simp [intOf]; omega
    · have hke : k = xs.length := by omega
      subst hke
      rcases HO.out.2 with ⟨_, h0⟩ | ⟨g, cap, cur, rfl, hg, hcur, hcap, hmax, _⟩
      · omega
      · have hcl := HO.out.cells (g := g) rfl
        rw [List.take_length] at hcl
        have HJ := Lib.hid (Tryd.strings_Join g 0 cap (xs.map fun x => ⟨(Lib.itoa x).toArray⟩) ⟨#[32]⟩ wr (fun j y hy => by
          rw [Nat.zero_add]
          have := hcl j (.string y) (by rw [List.getElem?_map] at hy ⊢; obtain ⟨x, hx, rfl⟩ := Option.map_eq_some_iff.1 hy; rw [hx]; rfl)
          rw [← this]
          simp [Addr.add]
          split <;> simp_all) (Array.getElem?_eq_some_iff.1 hcur).1 (by rw [List.length_map]; omega) (by rw [List.length_map]; exact hcap) (by
            have := wordsB_len xs hn HX.out
            unfold wordsB at this
            simp only [List.map_map, Function.comp_def, List.toList_toArray] at this ⊢
            exact Nat.le_trans this (by omega)))
        clear hcl hcur hmax hcap hg
        rw [List.length_map] at HJ
        go_wp2_with (go_at_call 58; refine HJ.out.mono ?_; rintro e w1 ⟨rfl, hb⟩)
        go_ret
        exact ⟨by simp [wordsB, strV, List.map_map, Function.comp_def], HB.out.trans (hb.mono HB.out.size)⟩

end Go.Proofs.YtpbhoembdoofiaaDoor.T
