/- The claim's theorem, and what it stands on. -/
import Derived.Below
import Derived.Carry
import Derived.ChangeOld
import Derived.Deep.SlicePairs
import Derived.OpenShut
import Derived.ProofKit
import Derived.ShutString
import Derived.SizedLaws
import Derived.Test.YtphpdfcblchpnaaRows
import Derived.WalkKit
import Derived.Test.YtphpdfcblchpnaaZL12
namespace Go.Proofs.Ytphpdfcblchpnaa.fnExactLayersOf
open Go.ChangeShapes Go.WideShapes Go.ChangeAt Go.RowKit Go.Deep Go.Proofs.Ytphpdfcblchpnaa.Q Go.Proofs.YtphpdfcblchpnaaW.PrintWords
theorem over : Rows.fnExactLayersOfRow.holds Try.pinned (OpenSpec.ofChange Rows.fnExactLayersOfSpec) :=
  OpenClaim.holds_of_wide 13 Try.f13 rfl rfl rfl rfl rfl rfl rfl ⟨rfl, rfl, rfl, rfl, rfl⟩ rfl rfl rfl rfl rfl (by kernel_rfl) Try.func13 closed
    (of_decide_eq_true (by kernel_rfl)) (by unfold Func.isWrapper; first | (rw [if_pos (by decide +kernel)]; kernel_rfl) | (rw [if_neg (by decide +kernel)]; exact ⟨rfl, rfl⟩))
    (fun os started H enc _ => lifted os started H enc)
theorem proved : Rows.FnExactLayersOfSaid := over
end Go.Proofs.Ytphpdfcblchpnaa.fnExactLayersOf
namespace Go.Proofs.Ytphpdfcblchpnaa
theorem fnExactLayersOf_holds : Rows.FnExactLayersOfSaid := fnExactLayersOf.proved
end Go.Proofs.Ytphpdfcblchpnaa
