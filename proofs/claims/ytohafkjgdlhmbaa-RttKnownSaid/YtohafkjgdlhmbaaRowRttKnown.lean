/- Proved: the law RttKnown of layer 6 answers true at every input, and leaves its input as it was; no condition. -/
import Derived.Test.YtohafkjgdlhmbaaRows
import Derived.Test.YtohafkjgdlhmbaaLaw06g
namespace Go.Proofs.Ytohafkjgdlhmbaa
open Go Go.RowKit Go.ChangeShapes Go.WideShapes Go.ChangeAt Go.Proofs.Ytohafkjgdlhmbaa.R
set_option maxRecDepth 100000
theorem rttKnown_lifted (os : Os) (started : os.Started) (H : Type) (enc : TypeId × Value → H) :
    ReturnsInHanded {} Try.checked os 7 .any (Rows.rttKnownSpec.pre6 enc Try.prog Try.f7 Rows.rttKnownRow.domain false) (Rows.rttKnownSpec.post enc Try.prog Try.f7 false true false false) :=
  row_true (C := Try.checked) (tb := 4) (ys := [.v 1 (.i .i64)]) own_ started (by kernel_rfl) Try.func7
    (ChangeSpec.witness6 (enc := enc) (C := Try.checked) false ⟨#[], #[.slice none 0 0], []⟩ 8 (by kernel_rfl) (by kernel_rfl) (by kernel_rfl) (by kernel_rfl))
    rfl laidOut_ (by kernel_rfl) rfl Try.underlying4
    (fun ds hd => by match ds, hd with | [d0], _ => exact ⟨rfl, rfl, rfl⟩)
    (by kernel_rfl) (fun x vs h => p_RttKnown x vs h)
theorem rttKnown_holds : Rows.RttKnownSaid :=
  OpenClaim.holds_of_wide 7 Try.f7 rfl rfl rfl rfl rfl rfl rfl ⟨rfl, rfl, rfl, rfl, rfl⟩ rfl rfl rfl rfl rfl (by kernel_rfl) Try.func7 (by kernel_rfl)
    (of_decide_eq_true (by kernel_rfl)) (by unfold Func.isWrapper; first | (rw [if_pos (by decide +kernel)]; kernel_rfl) | (rw [if_neg (by decide +kernel)]; exact ⟨rfl, rfl⟩))
    (fun os started H enc _ => rttKnown_lifted os started H enc)
#print axioms rttKnown_holds
end Go.Proofs.Ytohafkjgdlhmbaa
