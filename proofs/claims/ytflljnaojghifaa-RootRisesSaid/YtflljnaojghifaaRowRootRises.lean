/- Proved: of a greater size the root is no less, and a sign does not matter. No conditions. -/
import Derived.Test.YtflljnaojghifaaRows
import Derived.Test.YtflljnaojghifaaLaw03b
namespace Go.Proofs.Ytflljnaojghifaa
open Go Go.RowKit Go.ChangeShapes Go.WideShapes Go.ChangeAt Go.Proofs.Ytflljnaojghifaa.R
set_option maxRecDepth 100000
theorem rootRises_lifted (os : Os) (started : os.Started) (H : Type) (enc : TypeId × Value → H) :
    ReturnsInHanded {} Try.checked os 17 .any (Rows.rootRisesSpec.pre6 enc Try.prog Try.f17 Rows.rootRisesRow.domain false) (Rows.rootRisesSpec.post enc Try.prog Try.f17 false true false false) :=
  row_true (C := Try.checked) (tb := 4) (ys := [.r (.cons 1 (.b) (.cons 1 (.i .u64) (.cons 1 (.i .u64) (.nil)))), .r (.cons 1 (.b) (.cons 1 (.i .u64) (.cons 1 (.i .u64) (.nil))))]) own_ started (by kernel_rfl) Try.func17
    (ChangeSpec.witness6 (enc := enc) (C := Try.checked) false ⟨#[], #[.agg #[.bool false, .int .u64 0, .int .u64 0], .agg #[.bool false, .int .u64 0, .int .u64 0]], []⟩ 8 (by kernel_rfl) (by kernel_rfl) (by kernel_rfl) (by kernel_rfl))
    rfl laidOut_ (by kernel_rfl) rfl Try.underlying4
    (fun ds hd => by match ds, hd with | [d0, d1], _ => exact ⟨rfl, rfl, rfl⟩)
    (by kernel_rfl) (fun x vs h => p_RootRises x vs h)
theorem rootRises_holds : Rows.RootRisesSaid :=
  OpenClaim.holds_of_wide 17 Try.f17 rfl rfl rfl rfl rfl rfl rfl ⟨rfl, rfl, rfl, rfl, rfl⟩ rfl rfl rfl rfl rfl (by kernel_rfl) Try.func17 (by kernel_rfl)
    (of_decide_eq_true (by kernel_rfl)) (by unfold Func.isWrapper; first | (rw [if_pos (by decide +kernel)]; kernel_rfl) | (rw [if_neg (by decide +kernel)]; exact ⟨rfl, rfl⟩))
    (fun os started H enc _ => rootRises_lifted os started H enc)
#print axioms rootRises_holds
end Go.Proofs.Ytflljnaojghifaa
