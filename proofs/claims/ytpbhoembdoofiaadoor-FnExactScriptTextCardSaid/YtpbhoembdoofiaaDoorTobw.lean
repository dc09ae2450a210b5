/- A region that draws its order, reads, and calls functions that make memory of their own but give a value that does not depend on it: one walk in the order of the text. Conditions: none but those that each statement names. -/
import Derived.BigQuiet
import Derived.Deep.Quiet
import Derived.Test.YtpbhoembdoofiaaDoorToin
namespace Go.Proofs.YtpbhoembdoofiaaDoor.T
open Go.RowKit
set_option linter.unusedVariables false
set_option linter.unusedSimpArgs false
/-- The worlds that have only grown since W. -/
def BW (W : World) : Type := { w' : World // Below W.heap.size W w' }
instance BW.inh (W : World) : Inhabited (BW W) := ⟨⟨W, Below.refl _ _⟩⟩
def BW.w {W : World} (x : BW W) : World := x.1
theorem BW.b {W : World} (x : BW W) : Below W.heap.size W x.w := x.2
theorem region_bw {P : Program} {id : Nat} {Q : Exit → Act → World → Prop} {a : Act} {W : World} {l : List Oper} (hm : P.follows .mixedOrders = true) (hB : Region.lexB .any l.toArray = true)
    (h : wpQuiet P l.toArray (fun w' => ∃ x : BW W, w' = x.w) (fun a' => ∀ w', (∃ x : BW W, w' = x.w) → Q .normal a' w') l a) : (Code.region id l.toArray true).wp P Q a W :=
  wp_region_quiet (C := fun w' => ∃ x : BW W, w' = x.w) hm hB ⟨⟨W.drew, below_dr (Below.refl _ _)⟩, rfl⟩ (by simpa using h)
theorem call_bw {P : Program} {W : World} {f : FuncId} {args : Array Value} {v : Value} (x : BW W) (h : Calls P f args x.w fun e w' => e = .returned v ∧ Below x.w.heap.size x.w w') : Calls P f args x.w fun e w'' => e = .returned v ∧ ∃ y : BW W, w'' = y.w :=
  h.mono fun _ _ ⟨h1, h2⟩ => ⟨h1, ⟨⟨_, below_st x.b h2⟩, rfl⟩⟩
theorem call_bs {P : Program} {W : World} {f : FuncId} {args : Array Value} {v : Value} (x : BW W) (h : Calls P f args x.w fun e w' => e = .returned v ∧ x.w = w') : Calls P f args x.w fun e w'' => e = .returned v ∧ ∃ y : BW W, w'' = y.w :=
  h.mono fun _ _ ⟨h1, h2⟩ => ⟨h1, ⟨x, h2.symm⟩⟩
theorem cell_bw {W : World} {g j : Nat} {v : Value} (h : W.cell? ⟨g, j, none⟩ = some v) : ∀ x : BW W, x.w.cell? ⟨g, j, none⟩ = some v := fun x => cell_on x.b h
theorem row_bw {α : Type} {enc : α → List Value} {sz : Nat} {w W : World} {v : Value} {xs : List α} (h : Sd (Row enc sz w v xs)) (x : BW W) (k : Below w.heap.size w W := by (with_reducible repeat (first | exact Below.refl _ _ | exact Sd.out (by assumption) | refine below_al ?_ _ | refine below_drN ?_ _ | refine below_dr ?_ | refine below_put ?_ _ _ _ (by first | exact Nat.le_refl _ | omega)))) : Row enc sz x.w v xs := h.out.below (below_st k x.b)
theorem bw_end {w W : World} (h : Sd (Below w.heap.size w W)) (x : BW W) : Sd (Below w.heap.size w x.w) := ⟨below_st h.out x.b⟩

end Go.Proofs.YtpbhoembdoofiaaDoor.T
