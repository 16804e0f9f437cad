/- Proved: the law HystartLeast of layer 10 answers true at every input, and leaves its input as it was; no condition. -/
import Derived.Test.YtflljnaojghifaaRows
import Derived.Test.YtflljnaojghifaaLaw10f
namespace Go.Proofs.Ytflljnaojghifaa
open Go Go.RowKit Go.ChangeShapes Go.WideShapes Go.ChangeAt Go.Proofs.Ytflljnaojghifaa.R
set_option maxRecDepth 100000
theorem hystartLeast_lifted (os : Os) (started : os.Started) (H : Type) (enc : TypeId × Value → H) :
    ReturnsInHanded {} Try.checked os 13 .any (Rows.hystartLeastSpec.pre6 enc Try.prog Try.f13 Rows.hystartLeastRow.domain false) (Rows.hystartLeastSpec.post enc Try.prog Try.f13 false true false false) :=
  row_true (C := Try.checked) (tb := 4) (ys := [.v 1 (.i .i64)]) own_ started (by kernel_rfl) Try.func13
    (ChangeSpec.witness6 (enc := enc) (C := Try.checked) false ⟨#[], #[.slice none 0 0], []⟩ 8 (by kernel_rfl) (by kernel_rfl) (by kernel_rfl) (by kernel_rfl))
    rfl laidOut_ (by kernel_rfl) rfl Try.underlying4
    (fun ds hd => by match ds, hd with | [d0], _ => exact ⟨rfl, rfl, rfl⟩)
    (by kernel_rfl) (fun x vs h => p_HystartLeast x vs h)
theorem hystartLeast_holds : Rows.HystartLeastSaid :=
  OpenClaim.holds_of_wide 13 Try.f13 rfl rfl rfl rfl rfl rfl rfl ⟨rfl, rfl, rfl, rfl, rfl⟩ rfl rfl rfl rfl rfl (by kernel_rfl) Try.func13 (by kernel_rfl)
    (of_decide_eq_true (by kernel_rfl)) (by unfold Func.isWrapper; first | (rw [if_pos (by decide +kernel)]; kernel_rfl) | (rw [if_neg (by decide +kernel)]; exact ⟨rfl, rfl⟩))
    (fun os started H enc _ => hystartLeast_lifted os started H enc)
#print axioms hystartLeast_holds
end Go.Proofs.Ytflljnaojghifaa
