/- The claim's theorem, and what it stands on. -/
import Derived.Below
import Derived.Carry
import Derived.ChangeOld
import Derived.Deep.SlicePairs
import Derived.OpenShut
import Derived.ProofKit
import Derived.ShutString
import Derived.SizedLaws
import Derived.Test.YtphpdfcblchpnaaRows
import Derived.WalkKit
import Derived.Test.YtphpdfcblchpnaaZT14
namespace Go.Proofs.Ytphpdfcblchpnaa.fnExactIsThin
open Go.ChangeShapes Go.WideShapes Go.ChangeAt Go.RowKit Go.Deep Go.Proofs.Ytphpdfcblchpnaa.Q Go.Proofs.YtphpdfcblchpnaaW.PrintWords
theorem over : Rows.fnExactIsThinRow.holds Try.pinned (OpenSpec.ofChange Rows.fnExactIsThinSpec) :=
  OpenClaim.holds_of_wide 11 Try.f11 rfl rfl rfl rfl rfl rfl rfl ⟨rfl, rfl, rfl, rfl, rfl⟩ rfl rfl rfl rfl rfl (by kernel_rfl) Try.func11 closed
    (of_decide_eq_true (by kernel_rfl)) (by unfold Func.isWrapper; first | (rw [if_pos (by decide +kernel)]; kernel_rfl) | (rw [if_neg (by decide +kernel)]; exact ⟨rfl, rfl⟩))
    (fun os started H enc _ => lifted os started H enc)
theorem proved : Rows.FnExactIsThinSaid := over
end Go.Proofs.Ytphpdfcblchpnaa.fnExactIsThin
namespace Go.Proofs.Ytphpdfcblchpnaa
theorem fnExactIsThin_holds : Rows.FnExactIsThinSaid := fnExactIsThin.proved
end Go.Proofs.Ytphpdfcblchpnaa
