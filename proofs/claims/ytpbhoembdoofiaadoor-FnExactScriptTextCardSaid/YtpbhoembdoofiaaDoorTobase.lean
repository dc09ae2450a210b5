/- Lemmas on worlds that only grow, on numbers in a range, and on rows of structs in memory. Conditions: none but those that each statement names. -/
import Derived.Test.YtpbhoembdoofiaaDoorProg
import Derived.WalkKit
import Derived.Below
import Derived.IntWalk
import Derived.KernelRfl
import Derived.Outline
import Derived.Deep.RegionWith
import Derived.Lib.Hide
import Derived.Laws.AppendOwn
import Derived.ProofKit
import Derived.LoopTactic
import Derived.Maps.AppendAt
import Derived.Deep.DeepCutAuto
import Derived.BigQuiet
import Derived.Deep.QuietTactic
namespace Go.Proofs.YtpbhoembdoofiaaDoor.T
open Go.RowKit
set_option linter.unusedVariables false
set_option linter.unusedSimpArgs false
def inB (x a b : Int) : Bool := decide (a ≤ x) && decide (x ≤ b)
theorem inB_t {x a b : Int} (h : inB x a b = true) : a ≤ x ∧ x ≤ b := by simpa [inB] using h
theorem inB_is {x a b : Int} (h0 : a ≤ x) (h1 : x ≤ b) : inB x a b = true := by simp [inB, h0, h1]
theorem bcell {W w1 : World} (hb : Below W.heap.size W w1) : (∀ b o, b < W.heap.size → w1.cell? ⟨b, o, none⟩ = W.cell? ⟨b, o, none⟩) ∧ (∀ b o, b < W.heap.size → w1.frozen? ⟨b, o, none⟩ = W.frozen? ⟨b, o, none⟩) :=
  ⟨fun b o h => hb.cell (p := ⟨b, o, none⟩) h, fun b o h => hb.frozen (p := ⟨b, o, none⟩) h⟩
theorem lt_below {w w1 : World} {o : Obj} (hb : Below (w.alloc o).heap.size (w.alloc o) w1) : w.heap.size < w1.heap.size := by
  have := hb.size
  simp at this
  omega
theorem below_al {w W : World} (h : Below w.heap.size w W) (o : Obj) : Below w.heap.size w (W.alloc o) := h.alloc h.size o
theorem below_dr {w W : World} (h : Below w.heap.size w W) : Below w.heap.size w W.drew := ⟨h.os, h.tape, h.output, h.size, h.block⟩
theorem below_drN {w W : World} (h : Below w.heap.size w W) (n : Nat) : Below w.heap.size w (W.drewN n) := ⟨h.os, h.tape, h.output, h.size, h.block⟩
theorem below_st {w W w1 : World} (h : Below w.heap.size w W) (hb : Below W.heap.size W w1) : Below w.heap.size w w1 := h.trans (hb.mono h.size)
theorem below_put {w W : World} (h : Below w.heap.size w W) (g j : Nat) (u : Value) (hg : w.heap.size ≤ g) : Below w.heap.size w (W.setCell ⟨g, j, none⟩ u) := h.setCell hg u
theorem bW {w w1 W : World} (h : Hid (Below w.heap.size w w1)) (k : Below w.heap.size w w1 → Below w.heap.size w W := by intro a_; (with_reducible repeat (first | exact a_ | refine below_al ?_ _ | refine below_drN ?_ _ | refine below_dr ?_))) : Hid (Below w.heap.size w W) := Lib.hid (k h.out)
theorem bS {w w1 W w2 : World} (h : Hid (Below w.heap.size w w1)) (hb : Below W.heap.size W w2) (k : Below w.heap.size w w1 → Below w.heap.size w W := by intro a_; (with_reducible repeat (first | exact a_ | refine below_al ?_ _ | refine below_drN ?_ _ | refine below_dr ?_))) : Hid (Below w.heap.size w w2) := Lib.hid (below_st (k h.out) hb)
/-- A row of elements, each of sz cells, that a slice value reads. -/
def Row {α : Type} (enc : α → List Value) (sz : Nat) (w : World) (v : Value) (xs : List α) : Prop :=
  ∃ A c, v = .slice A xs.length c ∧ xs.length ≤ c ∧ xs.length ≤ 9223372036854775807 ∧ (0 < xs.length → ∃ b o, A = some ⟨b, o, none⟩ ∧ b < w.heap.size ∧ ∀ k x, xs[k]? = some x → ∀ j u, (enc x)[j]? = some u → w.cell? ⟨b, o + k * sz + j, none⟩ = some u)
theorem Row.below {α : Type} {enc : α → List Value} {sz : Nat} {w w1 : World} {v : Value} {xs : List α} (h : Row enc sz w v xs) (hb : Below w.heap.size w w1) : Row enc sz w1 v xs := by
  obtain ⟨A, c, rfl, h1, h2, h3⟩ := h
  refine ⟨A, c, rfl, h1, h2, fun hp => ?_⟩
  obtain ⟨b, o, rfl, hlt, hc⟩ := h3 hp
  exact ⟨b, o, rfl, Nat.lt_of_lt_of_le hlt hb.size, fun k x hk j u hu => by rw [hb.cell (p := ⟨b, _, none⟩) hlt]; exact hc k x hk j u hu⟩
theorem rW {α : Type} {enc : α → List Value} {sz : Nat} {w w1 : World} {v : Value} {xs : List α} (h : Hid (Row enc sz w v xs)) (k : Below w.heap.size w w1 := by (with_reducible repeat (first | exact Below.refl _ _ | exact Hid.out (by assumption) | refine below_al ?_ _ | refine below_drN ?_ _ | refine below_dr ?_))) : Row enc sz w1 v xs := h.out.below k
/-- A row of the call's own: it lies in a block from base on. -/
def Own {α : Type} (enc : α → List Value) (sz e : Nat) (w : World) (base : Nat) (v : Value) (xs : List α) : Prop := w.ownsRow base e sz v xs.length (xs.flatMap enc) ∧ ∀ x, (enc x).length = sz
theorem flat_at {α : Type} {enc : α → List Value} {sz : Nat} (hs : ∀ x, (enc x).length = sz) : ∀ (xs : List α) (k : Nat) (x : α), xs[k]? = some x → ∀ j u, (enc x)[j]? = some u → (xs.flatMap enc)[k * sz + j]? = some u
  | [], k, x, h, j, u, hu => by simp at h
  | y :: r, 0, x, h, j, u, hu => by
    simp at h
    subst h
    rw [List.flatMap_cons, Nat.zero_mul, Nat.zero_add, List.getElem?_append_left (List.getElem?_eq_some_iff.1 hu).1]
    exact hu
  | y :: r, k + 1, x, h, j, u, hu => by
    rw [List.flatMap_cons, List.getElem?_append_right (by rw [hs, Nat.add_mul]; omega), hs, show (k + 1) * sz + j - sz = k * sz + j by rw [Nat.add_mul]; omega]
    exact flat_at hs r k x (by simpa using h) j u hu
theorem Own.row {α : Type} {enc : α → List Value} {sz e : Nat} {w : World} {base : Nat} {v : Value} {xs : List α} (h : Own enc sz e w base v xs) : Row enc sz w v xs := by
  obtain ⟨ho, hs⟩ := h
  rcases ho.2 with ⟨rfl, h0⟩ | ⟨g, cap, cur, rfl, hg, hh, h1, h2, h3, h4⟩
  · exact ⟨none, 0, by rw [h0], by omega, by omega, fun hp => by omega⟩
  · refine ⟨_, cap, rfl, h1, by unfold maxLen at h2; omega, fun hp => ⟨g, 0, rfl, (Array.getElem?_eq_some_iff.1 hh).1, fun k x hk j u hu => ?_⟩⟩
    have h5 := flat_at hs xs k x hk j u hu
    have h6 := ho.cells (g := g) rfl (k * sz + j) u h5
    rw [Nat.zero_add, ← h6]
    simp only [Addr.add]
    split
    · rename_i e0; simp [e0]
    · simp
theorem Own.below {α : Type} {enc : α → List Value} {sz e : Nat} {w w1 : World} {base : Nat} {v : Value} {xs : List α} (h : Own enc sz e w base v xs) (hb : Below w.heap.size w w1) : Own enc sz e w1 base v xs := by
  obtain ⟨⟨h1, h2⟩, hs⟩ := h
  refine ⟨⟨h1, ?_⟩, hs⟩
  rcases h2 with h2 | ⟨g, cap, cur, rfl, hg, hh, r⟩
  · exact .inl h2
  · refine .inr ⟨g, cap, cur, rfl, hg, ?_, r⟩
    rw [hb.block g (Array.getElem?_eq_some_iff.1 hh).1]
    exact hh
theorem Own.lower {α : Type} {enc : α → List Value} {sz e : Nat} {w : World} {base base' : Nat} {v : Value} {xs : List α} (h : Own enc sz e w base v xs) (hb : base' ≤ base) : Own enc sz e w base' v xs := by
  obtain ⟨⟨h1, h2⟩, hs⟩ := h
  refine ⟨⟨h1, ?_⟩, hs⟩
  rcases h2 with h2 | ⟨g, cap, cur, rfl, hg, r⟩
  · exact .inl h2
  · exact .inr ⟨g, cap, cur, rfl, Nat.le_trans hb hg, r⟩
theorem oW {α : Type} {enc : α → List Value} {sz e base : Nat} {w w1 : World} {v : Value} {xs : List α} (h : Hid (Own enc sz e w base v xs)) (k : Below w.heap.size w w1 := by (with_reducible repeat (first | exact Below.refl _ _ | exact Hid.out (by assumption) | refine below_al ?_ _ | refine below_drN ?_ _ | refine below_dr ?_))) : Own enc sz e w1 base v xs := h.out.below k
theorem oS {α : Type} {enc : α → List Value} {sz e base : Nat} {w W w2 : World} {v : Value} {xs : List α} (h : Hid (Own enc sz e w base v xs)) (hb : Below W.heap.size W w2) (k : Below w.heap.size w W := by (with_reducible repeat (first | exact Below.refl _ _ | exact Hid.out (by assumption) | refine below_al ?_ _ | refine below_drN ?_ _ | refine below_dr ?_))) : Hid (Own enc sz e w2 base v xs) := Lib.hid ((h.out.below k).below hb)
theorem Own.nil {α : Type} (enc : α → List Value) (sz e : Nat) (w : World) (base : Nat) (hs : ∀ x, (enc x).length = sz) : Own enc sz e w base (.slice none 0 0) [] := ⟨World.ownsRow_nil w base e sz, hs⟩
theorem Own.made {α : Type} (enc : α → List Value) (sz e : Nat) (w : World) (base : Nat) (hs : ∀ x, (enc x).length = sz) (hb : base ≤ w.heap.size) : Own enc sz e (w.alloc (.cells #[] e (0, 0))) base (.slice (some ⟨w.heap.size, 0, none⟩) 0 0) ([] : List α) := ⟨World.ownsRow_made w #[] 0 hb (Nat.zero_le _) (by simp), hs⟩
theorem below_grew {w W w1 : World} {v : Value} {e sz n : Nat} {xs : List Value} (hb : Below w.heap.size w W) (ho : W.ownsRow w.heap.size e sz v n xs) (hg : W.grownBy w1 v.ownBlock) : Below w.heap.size w w1 :=
  hb.trans ⟨hg.os, hg.tape, hg.output, hg.size, fun k hk => hg.block k (Nat.lt_of_lt_of_le hk hb.size) (fun e => by have := ho.lt k e.symm; omega)⟩
theorem getD_at {α : Type} {xs : List α} {k : Nat} (h : k < xs.length) (z : α) : xs[k]? = some (xs.getD k z) := by rw [List.getD_eq_getElem?_getD, List.getElem?_eq_getElem h]; rfl
structure Stp where
  f0 : Int
  f1 : Int
  f2 : Int
  f3 : Int
structure Ent where
  f0 : Int
  f1 : Int
  f2 : Int
  f3 : Int
def zS : Stp := ⟨0, 0, 0, 0⟩
def zE : Ent := ⟨0, 0, 0, 0⟩
def encI (x : Int) : List Value := [.int .i64 x]
def encS (x : Stp) : List Value := [.int .i64 x.f0, .int .i64 x.f1, .int .i64 x.f2, .int .i64 x.f3]
def encE (x : Ent) : List Value := [.int .i64 x.f0, .int .i64 x.f1, .int .i64 x.f2, .int .i64 x.f3]
abbrev RowI := Row encI 1
abbrev RowS := Row encS 4
abbrev RowE := Row encE 4
theorem RowI.at {w : World} {A : Option Addr} {n c : Nat} {xs : List Int} (h : RowI w (.slice A n c) xs) (k : Nat) (hk : k < xs.length) : ∃ b o, A = some ⟨b, o, none⟩ ∧ w.cell? ⟨b, o + k, none⟩ = some (.int .i64 (xs.getD k 0)) := by
  obtain ⟨A', c', e, _, _, h3⟩ := h
  obtain ⟨b, o, rfl, _, hc⟩ := h3 (by omega)
  injection e with e1 e2 e3
  exact ⟨b, o, e1, by have := hc k _ (getD_at hk 0) 0 _ rfl; rw [Nat.mul_one, Nat.add_zero] at this; exact this⟩
theorem RowS.at {w : World} {A : Option Addr} {n c : Nat} {xs : List Stp} (h : RowS w (.slice A n c) xs) (k : Nat) (hk : k < xs.length) : ∃ b o, A = some ⟨b, o, none⟩ ∧ w.cell? ⟨b, o + k * 4, none⟩ = some (.int .i64 (xs.getD k zS).f0) ∧ w.cell? ⟨b, o + k * 4 + 1, none⟩ = some (.int .i64 (xs.getD k zS).f1) ∧ w.cell? ⟨b, o + k * 4 + 2, none⟩ = some (.int .i64 (xs.getD k zS).f2) ∧ w.cell? ⟨b, o + k * 4 + 3, none⟩ = some (.int .i64 (xs.getD k zS).f3) := by
  obtain ⟨A', c', e, _, _, h3⟩ := h
  obtain ⟨b, o, rfl, _, hc⟩ := h3 (by omega)
  injection e with e1 e2 e3
  exact ⟨b, o, e1, hc k _ (getD_at hk zS) 0 _ rfl, hc k _ (getD_at hk zS) 1 _ rfl, hc k _ (getD_at hk zS) 2 _ rfl, hc k _ (getD_at hk zS) 3 _ rfl⟩
theorem RowE.at {w : World} {A : Option Addr} {n c : Nat} {xs : List Ent} (h : RowE w (.slice A n c) xs) (k : Nat) (hk : k < xs.length) : ∃ b o, A = some ⟨b, o, none⟩ ∧ w.cell? ⟨b, o + k * 4, none⟩ = some (.int .i64 (xs.getD k zE).f0) ∧ w.cell? ⟨b, o + k * 4 + 1, none⟩ = some (.int .i64 (xs.getD k zE).f1) ∧ w.cell? ⟨b, o + k * 4 + 2, none⟩ = some (.int .i64 (xs.getD k zE).f2) ∧ w.cell? ⟨b, o + k * 4 + 3, none⟩ = some (.int .i64 (xs.getD k zE).f3) := by
  obtain ⟨A', c', e, _, _, h3⟩ := h
  obtain ⟨b, o, rfl, _, hc⟩ := h3 (by omega)
  injection e with e1 e2 e3
  exact ⟨b, o, e1, hc k _ (getD_at hk zE) 0 _ rfl, hc k _ (getD_at hk zE) 1 _ rfl, hc k _ (getD_at hk zE) 2 _ rfl, hc k _ (getD_at hk zE) 3 _ rfl⟩
theorem Row.len {α : Type} {enc : α → List Value} {sz : Nat} {w : World} {A : Option Addr} {n c : Nat} {xs : List α} (h : Row enc sz w (.slice A n c) xs) : n = xs.length ∧ xs.length ≤ c ∧ xs.length ≤ 9223372036854775807 := by
  obtain ⟨A', c', e, h1, h2, _⟩ := h
  injection e with e1 e2 e3
  exact ⟨e2, by omega, h2⟩
theorem Row.slice {α : Type} {enc : α → List Value} {sz : Nat} {w : World} {v : Value} {xs : List α} (h : Row enc sz w v xs) : ∃ A c, v = .slice A xs.length c ∧ xs.length ≤ c ∧ xs.length ≤ 9223372036854775807 := by
  obtain ⟨A', c', e, h1, h2, _⟩ := h
  exact ⟨A', c', e, h1, h2⟩
/-- A fact that the walk doesn't use as a rule. -/
structure Sd (p : Prop) : Prop where
  out : p
theorem blk_new (w : World) (o : Obj) : (w.alloc o).heap[w.heap.size]? = some o := by
  show (w.heap.push o)[w.heap.size]? = some o
  simp
theorem blk_lt {w : World} {g : Nat} {o : Obj} (h : w.heap[g]? = some o) : g < w.heap.size := (Array.getElem?_eq_some_iff.1 h).1
theorem blk_below {w w1 : World} {g : Nat} {o : Obj} (h : w.heap[g]? = some o) (hb : Below w.heap.size w w1) : w1.heap[g]? = some o := (hb.block g (blk_lt h)).trans h
theorem blk_alloc {w : World} {g : Nat} {o : Obj} (h : w.heap[g]? = some o) (o' : Obj) : (w.alloc o').heap[g]? = some o := blk_below h (below_al (Below.refl _ _) o')
theorem blk_drew {w : World} {g : Nat} {o : Obj} (h : w.heap[g]? = some o) : w.drew.heap[g]? = some o := h
theorem blk_drewN {w : World} {g : Nat} {o : Obj} (h : w.heap[g]? = some o) (n : Nat) : (w.drewN n).heap[g]? = some o := h
theorem blk_cell {w : World} {g t : Nat} {cs : Array Value} (h : w.heap[g]? = some (.cells cs t (0, 0))) (i : Nat) : w.cell? ⟨g, i, none⟩ = cs[i]? := by simp [World.cell?, h]
theorem blk_frozen {w : World} {g t : Nat} {cs : Array Value} (h : w.heap[g]? = some (.cells cs t (0, 0))) (i : Nat) : w.frozen? ⟨g, i, none⟩ = false := by simp [World.frozen?, h]
theorem blk_far {w : World} {g : Nat} {o : Obj} (h : w.heap[g]? = some o) {b : Nat} (hg : g ≠ b) (j : Nat) (u : Value) : (w.setCell ⟨b, j, none⟩ u).heap[g]? = some o := (Below.heap_setCell w ⟨b, j, none⟩ u g hg).trans h
theorem blk_put {w : World} {g t : Nat} {cs : Array Value} (h : w.heap[g]? = some (.cells cs t (0, 0))) (j : Nat) (u : Value) : (w.setCell ⟨g, j, none⟩ u).heap[g]? = some (.cells (cs.setIfInBounds j u) t (0, 0)) := by
  simp [World.setCell, Array.getElem?_modify, h]
theorem bB {w w1 W : World} (h : Sd (Below w.heap.size w w1)) (k : Below w.heap.size w w1 → Below w.heap.size w W := by intro a_; (with_reducible repeat (first | exact a_ | refine below_al ?_ _ | refine below_drN ?_ _ | refine below_dr ?_ | refine below_put ?_ _ _ _ (by first | exact Nat.le_refl _ | omega)))) : Below w.heap.size w W := k h.out
theorem kB {w W : World} {g : Nat} {o : Obj} (h : Sd (w.heap[g]? = some o)) (k : w.heap[g]? = some o → W.heap[g]? = some o := by intro a_; (with_reducible repeat (first | exact a_ | refine blk_alloc ?_ _ | refine blk_drewN ?_ _ | refine blk_drew ?_))) : W.heap[g]? = some o := k h.out
theorem cell_on {w w1 : World} (h : Below w.heap.size w w1) {b i : Nat} {v : Value} (hc : w.cell? ⟨b, i, none⟩ = some v) : w1.cell? ⟨b, i, none⟩ = some v := by
  have hlt : b < w.heap.size := by
    unfold World.cell? at hc
    cases hb : w.heap[b]? with
    | none => simp [hb] at hc
    | some o => exact (Array.getElem?_eq_some_iff.1 hb).1
  rw [h.cell (p := ⟨b, i, none⟩) hlt]
  exact hc
theorem in_is {f : FuncId} {x a b : Int} {r : Bool} (h : inB x a b = r) {w : World} (hc : Calls Tryd.prog f #[.int .i64 x, .int .i64 a, .int .i64 b] w fun e w' => e = .returned (.bool (inB x a b)) ∧ w = w') : Calls Tryd.prog f #[.int .i64 x, .int .i64 a, .int .i64 b] w fun e w' => e = .returned (.bool r) ∧ w = w' := by rw [h] at hc; exact hc
theorem one_is {f : FuncId} {x : Int} {p : Int → Bool} {r : Bool} (h : p x = r) {w : World} (hc : Calls Tryd.prog f #[.int .i64 x] w fun e w' => e = .returned (.bool (p x)) ∧ w = w') : Calls Tryd.prog f #[.int .i64 x] w fun e w' => e = .returned (.bool r) ∧ w = w' := by rw [h] at hc; exact hc
theorem beqT {a b : Int} (h : a = b) : (a == b) = true := beq_iff_eq.mpr h
theorem beqF {a b : Int} (h : ¬ a = b) : (a == b) = false := beq_eq_false_iff_ne.mpr h
theorem sS {w w1 W w2 : World} (h : Sd (Below w.heap.size w w1)) (hb : Below W.heap.size W w2) (k : Below w.heap.size w w1 → Below w.heap.size w W := by intro a_; (with_reducible repeat (first | exact a_ | refine below_al ?_ _ | refine below_drN ?_ _ | refine below_dr ?_ | refine below_put ?_ _ _ _ (by first | exact Nat.le_refl _ | omega)))) : Sd (Below w.heap.size w w2) := ⟨below_st (k h.out) hb⟩
theorem s0 (w : World) : Sd (Below w.heap.size w w) := ⟨Below.refl _ _⟩
theorem rS {α : Type} {enc : α → List Value} {sz : Nat} {w w1 : World} {v : Value} {xs : List α} (h : Sd (Row enc sz w v xs)) (k : Below w.heap.size w w1 := by (with_reducible repeat (first | exact Below.refl _ _ | exact Sd.out (by assumption) | refine below_al ?_ _ | refine below_drN ?_ _ | refine below_dr ?_ | refine below_put ?_ _ _ _ (by first | exact Nat.le_refl _ | omega)))) : Row enc sz w1 v xs := h.out.below k
theorem own_below {w w1 : World} {B : Nat} {v : Value} {e n sz : Nat} {xs : List Value} (ho : w.ownsRow B e sz v n xs) (hb : Below w.heap.size w w1) : w1.ownsRow B e sz v n xs := by
  obtain ⟨h1, h2⟩ := ho
  refine ⟨h1, ?_⟩
  rcases h2 with h2 | ⟨g, cap, cur, rfl, hg, hh, r⟩
  · exact .inl h2
  · exact .inr ⟨g, cap, cur, rfl, hg, blk_below hh hb, r⟩

end Go.Proofs.YtpbhoembdoofiaaDoor.T
