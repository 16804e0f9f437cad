/- Proved: the law EventTells of layer 20 answers true at every input, and leaves its input as it was; no condition. -/
import Derived.Test.YtflljnaojghifaaRows
import Derived.Test.YtflljnaojghifaaLaw20b
namespace Go.Proofs.Ytflljnaojghifaa
open Go Go.RowKit Go.ChangeShapes Go.WideShapes Go.ChangeAt Go.Proofs.Ytflljnaojghifaa.R
set_option maxRecDepth 100000
theorem eventTells_lifted (os : Os) (started : os.Started) (H : Type) (enc : TypeId × Value → H) :
    ReturnsInHanded {} Try.checked os 3 .any (Rows.eventTellsSpec.pre6 enc Try.prog Try.f3 Rows.eventTellsRow.domain false) (Rows.eventTellsSpec.post enc Try.prog Try.f3 false true false false) :=
  row_true (C := Try.checked) (tb := 4) (ys := [.r (.cons 1 (.i .i64) (.cons 1 (.i .i64) (.cons 1 (.i .i64) (.cons 1 (.i .i64) (.nil))))), .v 1 (.i .i64), .v 1 (.v 1 (.i .i64))]) own_ started (by kernel_rfl) Try.func3
    (ChangeSpec.witness6 (enc := enc) (C := Try.checked) false ⟨#[], #[.agg #[.int .i64 0, .int .i64 0, .int .i64 0, .int .i64 0], .slice none 0 0, .slice none 0 0], []⟩ 8 (by kernel_rfl) (by kernel_rfl) (by kernel_rfl) (by kernel_rfl))
    rfl laidOut_ (by kernel_rfl) rfl Try.underlying4
    (fun ds hd => by match ds, hd with | [d0, d1, d2], _ => exact ⟨rfl, rfl, rfl⟩)
    (by kernel_rfl) (fun x vs h => p_EventTells x vs h)
theorem eventTells_holds : Rows.EventTellsSaid :=
  OpenClaim.holds_of_wide 3 Try.f3 rfl rfl rfl rfl rfl rfl rfl ⟨rfl, rfl, rfl, rfl, rfl⟩ rfl rfl rfl rfl rfl (by kernel_rfl) Try.func3 (by kernel_rfl)
    (of_decide_eq_true (by kernel_rfl)) (by unfold Func.isWrapper; first | (rw [if_pos (by decide +kernel)]; kernel_rfl) | (rw [if_neg (by decide +kernel)]; exact ⟨rfl, rfl⟩))
    (fun os started H enc _ => eventTells_lifted os started H enc)
#print axioms eventTells_holds
end Go.Proofs.Ytflljnaojghifaa
