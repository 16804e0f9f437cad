/- The row of RttRises. -/
import Derived.Test.YtohafkjgdlhmbaaRows
import Derived.Test.YtohafkjgdlhmbaaLaw06b
namespace Go.Proofs.Ytohafkjgdlhmbaa
open Go Go.RowKit Go.ChangeShapes Go.WideShapes Go.ChangeAt Go.Proofs.Ytohafkjgdlhmbaa.R
set_option maxRecDepth 100000
theorem rttRises_lifted (os : Os) (started : os.Started) (H : Type) (enc : TypeId × Value → H) :
    ReturnsInHanded {} Try.checked os 6 .any (Rows.rttRisesSpec.pre6 enc Try.prog Try.f6 Rows.rttRisesRow.domain false) (Rows.rttRisesSpec.post enc Try.prog Try.f6 false true false false) :=
  row_true (C := Try.checked) (tb := 4) (ys := [.r (.cons 1 (.b) (.cons 1 (.i .i64) (.cons 1 (.i .i64) (.nil)))), .i .i64, .i .i64]) own_ started (by kernel_rfl) Try.func6
    (ChangeSpec.witness6 (enc := enc) (C := Try.checked) false ⟨#[], #[.agg #[.bool false, .int .i64 0, .int .i64 0], .int .i64 0, .int .i64 0], []⟩ 8 (by kernel_rfl) (by kernel_rfl) (by kernel_rfl) (by kernel_rfl))
    rfl laidOut_ (by kernel_rfl) rfl Try.underlying4
    (fun ds hd => by match ds, hd with | [d0, d1, d2], _ => exact ⟨rfl, rfl, rfl⟩)
    (by kernel_rfl) (fun x vs h => p_RttRises x vs h)
theorem rttRises_holds : Rows.RttRisesSaid :=
  OpenClaim.holds_of_wide 6 Try.f6 rfl rfl rfl rfl rfl rfl rfl ⟨rfl, rfl, rfl, rfl, rfl⟩ rfl rfl rfl rfl rfl (by kernel_rfl) Try.func6 (by kernel_rfl)
    (of_decide_eq_true (by kernel_rfl)) (by unfold Func.isWrapper; first | (rw [if_pos (by decide +kernel)]; kernel_rfl) | (rw [if_neg (by decide +kernel)]; exact ⟨rfl, rfl⟩))
    (fun os started H enc _ => rttRises_lifted os started H enc)
#print axioms rttRises_holds
end Go.Proofs.Ytohafkjgdlhmbaa
