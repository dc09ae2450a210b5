/- Opening structs of four whole numbers that came in. Conditions: none but those that each statement names. -/
import Derived.WalkKit
import Derived.ProofKit
import Derived.OpenShut
import Derived.ShutString
import Derived.ChangeOld
import Derived.Below
import Derived.SizedLaws
import Derived.Carry
import Derived.Lib.SmallJoins
namespace Go.Proofs.YtpbhoembdoofiaaDoor.T
open Go.ChangeShapes Go.WideShapes Go.ChangeAt Go.Joins
set_option linter.unusedVariables false
set_option linter.unusedSimpArgs false
variable {H : Type} {enc : TypeId × Value → H} {P : Program} {w : World} {base : Nat} {spare : Nat → Bool} {held : Bool}
theorem ro_four {e t : TypeId} {f0 f1 f2 f3 : Field} {n : Nat} {cs : List Value} {y : DataW H × List MemPlace} {k : IntKind} (hs : P.underlying e = some (.struct #[f0, f1, f2, f3])) (h0 : f0.type = t ∧ f0.offset = 0) (h1 : f1.type = t ∧ f1.offset = 1) (h2 : f2.type = t ∧ f2.offset = 2) (h3 : f3.type = t ∧ f3.offset = 3) (ht : P.underlying t = some (.int k)) (hc : P.cellsOf t = 1) (hl : cs.length = 4) (h : DataW.trod enc P w base spare held n e cs = some y) :
    ∃ a b c d, cs = [.int k a, .int k b, .int k c, .int k d] := by
  match cs, hl with
  | [v0, v1, v2, v3], _ =>
    obtain ⟨y0, y1, y2, y3, m, _, _, g0, g1, g2, g3⟩ := trod_struct4 hs h
    rw [h0.1, h0.2, hc] at g0
    rw [h1.1, h1.2, hc] at g1
    rw [h2.1, h2.2, hc] at g2
    rw [h3.1, h3.2, hc] at g3
    obtain ⟨a, e0, _, _⟩ := DataW.trod_int ht g0
    obtain ⟨b, e1, _, _⟩ := DataW.trod_int ht g1
    obtain ⟨c, e2, _, _⟩ := DataW.trod_int ht g2
    obtain ⟨d, e3, _, _⟩ := DataW.trod_int ht g3
    simp at e0 e1 e2 e3
    exact ⟨a, b, c, d, by rw [e0, e1, e2, e3]⟩

end Go.Proofs.YtpbhoembdoofiaaDoor.T
