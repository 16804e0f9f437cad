/- Proved: the law EventRises of layer 20 answers true at every input, and leaves its input as it was; no condition. -/
import Derived.Test.YtflljnaojghifaaRows
import Derived.Test.YtflljnaojghifaaLaw20d
namespace Go.Proofs.Ytflljnaojghifaa
open Go Go.RowKit Go.ChangeShapes Go.WideShapes Go.ChangeAt Go.Proofs.Ytflljnaojghifaa.R
set_option maxRecDepth 100000
theorem eventRises_lifted (os : Os) (started : os.Started) (H : Type) (enc : TypeId × Value → H) :
    ReturnsInHanded {} Try.checked os 5 .any (Rows.eventRisesSpec.pre6 enc Try.prog Try.f5 Rows.eventRisesRow.domain false) (Rows.eventRisesSpec.post enc Try.prog Try.f5 false true false false) :=
  row_true (C := Try.checked) (tb := 4) (ys := [.v 1 (.v 1 (.i .i64))]) own_ started (by kernel_rfl) Try.func5
    (ChangeSpec.witness6 (enc := enc) (C := Try.checked) false ⟨#[], #[.slice none 0 0], []⟩ 8 (by kernel_rfl) (by kernel_rfl) (by kernel_rfl) (by kernel_rfl))
    rfl laidOut_ (by kernel_rfl) rfl Try.underlying4
    (fun ds hd => by match ds, hd with | [d0], _ => exact ⟨rfl, rfl, rfl⟩)
    (by kernel_rfl) (fun x vs h => p_EventRises x vs h)
theorem eventRises_holds : Rows.EventRisesSaid :=
  OpenClaim.holds_of_wide 5 Try.f5 rfl rfl rfl rfl rfl rfl rfl ⟨rfl, rfl, rfl, rfl, rfl⟩ rfl rfl rfl rfl rfl (by kernel_rfl) Try.func5 (by kernel_rfl)
    (of_decide_eq_true (by kernel_rfl)) (by unfold Func.isWrapper; first | (rw [if_pos (by decide +kernel)]; kernel_rfl) | (rw [if_neg (by decide +kernel)]; exact ⟨rfl, rfl⟩))
    (fun os started H enc _ => eventRises_lifted os started H enc)
#print axioms eventRises_holds
end Go.Proofs.Ytflljnaojghifaa
