/- Parts of the proof: printed texts, words and own texts, cut to what is used. -/
import Derived.JoinedOf
import Derived.Test.YtphpdfcblchpnaaRows
import Derived.Test.YtphpdfcblchpnaaZT8
namespace Go.Proofs.Ytphpdfcblchpnaa.fnExactIsThin
open Go
theorem fact1 : Try.pinned.checked.prog.inPlace 11 = [] := by kernel_rfl
theorem fact2 : Try.pinned.checked.prog.unfollowed 11 = true := by kernel_rfl
theorem fact3 : Try.pinned.checked.prog.recurses 11 = true := by kernel_rfl
theorem fact4 : Try.pinned.checked.prog.varsNamed 11 = [] := by kernel_rfl
theorem closed : joinedFacts Try.pinned.checked.prog 11 Try.f11 Rows.fnExactIsThinSpec Rows.fnExactIsThinRow = true := by
  unfold joinedFacts
  rw [fact1, fact2, fact3, fact4]
  kernel_rfl
end Go.Proofs.Ytphpdfcblchpnaa.fnExactIsThin
