/- Proved: the law ClockAfter of layer 5 answers true at every input, and leaves its input as it was; no condition. -/
import Derived.Test.YtohafkjgdlhmbaaRows
import Derived.Test.YtohafkjgdlhmbaaLaw05d
namespace Go.Proofs.Ytohafkjgdlhmbaa
open Go Go.RowKit Go.ChangeShapes Go.WideShapes Go.ChangeAt Go.Proofs.Ytohafkjgdlhmbaa.R
set_option maxRecDepth 100000
theorem clockAfter_lifted (os : Os) (started : os.Started) (H : Type) (enc : TypeId × Value → H) :
    ReturnsInHanded {} Try.checked os 17 .any (Rows.clockAfterSpec.pre6 enc Try.prog Try.f17 Rows.clockAfterRow.domain false) (Rows.clockAfterSpec.post enc Try.prog Try.f17 false true false false) :=
  row_true (C := Try.checked) (tb := 4) (ys := [.i .i64, .i .i32, .i .i32]) own_ started (by kernel_rfl) Try.func17
    (ChangeSpec.witness6 (enc := enc) (C := Try.checked) false ⟨#[], #[.int .i64 0, .int .i32 0, .int .i32 0], []⟩ 8 (by kernel_rfl) (by kernel_rfl) (by kernel_rfl) (by kernel_rfl))
    rfl laidOut_ (by kernel_rfl) rfl Try.underlying4
    (fun ds hd => by match ds, hd with | [d0, d1, d2], _ => exact ⟨rfl, rfl, rfl⟩)
    (by kernel_rfl) (fun x vs h => p_ClockAfter x vs h)
theorem clockAfter_holds : Rows.ClockAfterSaid :=
  OpenClaim.holds_of_wide 17 Try.f17 rfl rfl rfl rfl rfl rfl rfl ⟨rfl, rfl, rfl, rfl, rfl⟩ rfl rfl rfl rfl rfl (by kernel_rfl) Try.func17 (by kernel_rfl)
    (of_decide_eq_true (by kernel_rfl)) (by unfold Func.isWrapper; first | (rw [if_pos (by decide +kernel)]; kernel_rfl) | (rw [if_neg (by decide +kernel)]; exact ⟨rfl, rfl⟩))
    (fun os started H enc _ => clockAfter_lifted os started H enc)
#print axioms clockAfter_holds
end Go.Proofs.Ytohafkjgdlhmbaa
