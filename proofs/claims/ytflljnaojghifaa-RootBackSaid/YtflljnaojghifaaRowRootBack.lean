/- Proved: the root of a cube, and of a square, is what that is of, and that of one less is one less. No conditions. -/
import Derived.Test.YtflljnaojghifaaRows
import Derived.Test.YtflljnaojghifaaLaw03c
namespace Go.Proofs.Ytflljnaojghifaa
open Go Go.RowKit Go.ChangeShapes Go.WideShapes Go.ChangeAt Go.Proofs.Ytflljnaojghifaa.R
set_option maxRecDepth 100000
theorem rootBack_lifted (os : Os) (started : os.Started) (H : Type) (enc : TypeId × Value → H) :
    ReturnsInHanded {} Try.checked os 20 .any (Rows.rootBackSpec.pre6 enc Try.prog Try.f20 Rows.rootBackRow.domain false) (Rows.rootBackSpec.post enc Try.prog Try.f20 false true false false) :=
  row_true (C := Try.checked) (tb := 4) (ys := [.i .u64, .i .u64]) own_ started (by kernel_rfl) Try.func20
    (ChangeSpec.witness6 (enc := enc) (C := Try.checked) false ⟨#[], #[.int .u64 0, .int .u64 0], []⟩ 8 (by kernel_rfl) (by kernel_rfl) (by kernel_rfl) (by kernel_rfl))
    rfl laidOut_ (by kernel_rfl) rfl Try.underlying4
    (fun ds hd => by match ds, hd with | [d0, d1], _ => exact ⟨rfl, rfl, rfl⟩)
    (by kernel_rfl) (fun x vs h => p_RootBack x vs h)
theorem rootBack_holds : Rows.RootBackSaid :=
  OpenClaim.holds_of_wide 20 Try.f20 rfl rfl rfl rfl rfl rfl rfl ⟨rfl, rfl, rfl, rfl, rfl⟩ rfl rfl rfl rfl rfl (by kernel_rfl) Try.func20 (by kernel_rfl)
    (of_decide_eq_true (by kernel_rfl)) (by unfold Func.isWrapper; first | (rw [if_pos (by decide +kernel)]; kernel_rfl) | (rw [if_neg (by decide +kernel)]; exact ⟨rfl, rfl⟩))
    (fun os started H enc _ => rootBack_lifted os started H enc)
#print axioms rootBack_holds
end Go.Proofs.Ytflljnaojghifaa
