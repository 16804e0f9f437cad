/- Proved: the law RtoSteady of layer 7 answers true at every input, and leaves its input as it was; no condition. -/
import Derived.Test.YtohafkjgdlhmbaaRows
import Derived.Test.YtohafkjgdlhmbaaLaw07g
namespace Go.Proofs.Ytohafkjgdlhmbaa
open Go Go.RowKit Go.ChangeShapes Go.WideShapes Go.ChangeAt Go.Proofs.Ytohafkjgdlhmbaa.R
set_option maxRecDepth 100000
theorem rtoSteady_lifted (os : Os) (started : os.Started) (H : Type) (enc : TypeId × Value → H) :
    ReturnsInHanded {} Try.checked os 19 .any (Rows.rtoSteadySpec.pre6 enc Try.prog Try.f19 Rows.rtoSteadyRow.domain false) (Rows.rtoSteadySpec.post enc Try.prog Try.f19 false true false false) :=
  row_true (C := Try.checked) (tb := 4) (ys := [.i .u32, .i .u16]) own_ started (by kernel_rfl) Try.func19
    (ChangeSpec.witness6 (enc := enc) (C := Try.checked) false ⟨#[], #[.int .u32 0, .int .u16 0], []⟩ 8 (by kernel_rfl) (by kernel_rfl) (by kernel_rfl) (by kernel_rfl))
    rfl laidOut_ (by kernel_rfl) rfl Try.underlying4
    (fun ds hd => by match ds, hd with | [d0, d1], _ => exact ⟨rfl, rfl, rfl⟩)
    (by kernel_rfl) (fun x vs h => p_RtoSteady x vs h)
theorem rtoSteady_holds : Rows.RtoSteadySaid :=
  OpenClaim.holds_of_wide 19 Try.f19 rfl rfl rfl rfl rfl rfl rfl ⟨rfl, rfl, rfl, rfl, rfl⟩ rfl rfl rfl rfl rfl (by kernel_rfl) Try.func19 (by kernel_rfl)
    (of_decide_eq_true (by kernel_rfl)) (by unfold Func.isWrapper; first | (rw [if_pos (by decide +kernel)]; kernel_rfl) | (rw [if_neg (by decide +kernel)]; exact ⟨rfl, rfl⟩))
    (fun os started H enc _ => rtoSteady_lifted os started H enc)
#print axioms rtoSteady_holds
end Go.Proofs.Ytohafkjgdlhmbaa
