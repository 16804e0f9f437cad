/- Proved: the law RttSteady of layer 6 answers true at every input, and leaves its input as it was; no condition. -/
import Derived.Test.YtohafkjgdlhmbaaRows
import Derived.Test.YtohafkjgdlhmbaaLaw06e
namespace Go.Proofs.Ytohafkjgdlhmbaa
open Go Go.RowKit Go.ChangeShapes Go.WideShapes Go.ChangeAt Go.Proofs.Ytohafkjgdlhmbaa.R
set_option maxRecDepth 100000
theorem rttSteady_lifted (os : Os) (started : os.Started) (H : Type) (enc : TypeId × Value → H) :
    ReturnsInHanded {} Try.checked os 5 .any (Rows.rttSteadySpec.pre6 enc Try.prog Try.f5 Rows.rttSteadyRow.domain false) (Rows.rttSteadySpec.post enc Try.prog Try.f5 false true false false) :=
  row_true (C := Try.checked) (tb := 4) (ys := [.r (.cons 1 (.b) (.cons 1 (.i .i64) (.cons 1 (.i .i64) (.nil)))), .i .u32]) own_ started (by kernel_rfl) Try.func5
    (ChangeSpec.witness6 (enc := enc) (C := Try.checked) false ⟨#[], #[.agg #[.bool false, .int .i64 0, .int .i64 0], .int .u32 0], []⟩ 8 (by kernel_rfl) (by kernel_rfl) (by kernel_rfl) (by kernel_rfl))
    rfl laidOut_ (by kernel_rfl) rfl Try.underlying4
    (fun ds hd => by match ds, hd with | [d0, d1], _ => exact ⟨rfl, rfl, rfl⟩)
    (by kernel_rfl) (fun x vs h => p_RttSteady x vs h)
theorem rttSteady_holds : Rows.RttSteadySaid :=
  OpenClaim.holds_of_wide 5 Try.f5 rfl rfl rfl rfl rfl rfl rfl ⟨rfl, rfl, rfl, rfl, rfl⟩ rfl rfl rfl rfl rfl (by kernel_rfl) Try.func5 (by kernel_rfl)
    (of_decide_eq_true (by kernel_rfl)) (by unfold Func.isWrapper; first | (rw [if_pos (by decide +kernel)]; kernel_rfl) | (rw [if_neg (by decide +kernel)]; exact ⟨rfl, rfl⟩))
    (fun os started H enc _ => rttSteady_lifted os started H enc)
#print axioms rttSteady_holds
end Go.Proofs.Ytohafkjgdlhmbaa
