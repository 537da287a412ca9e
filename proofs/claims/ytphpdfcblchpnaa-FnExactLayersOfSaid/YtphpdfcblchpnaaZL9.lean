/- Parts of the proof: printed texts, words and own texts, cut to what is used. -/
import Derived.JoinedOf
import Derived.Test.YtphpdfcblchpnaaRows
import Derived.Test.YtphpdfcblchpnaaZL8
namespace Go.Proofs.Ytphpdfcblchpnaa.fnExactLayersOf
open Go
theorem fact1 : Try.pinned.checked.prog.inPlace 13 = [] := by kernel_rfl
theorem fact2 : Try.pinned.checked.prog.unfollowed 13 = true := by kernel_rfl
theorem fact3 : Try.pinned.checked.prog.recurses 13 = true := by kernel_rfl
theorem fact4 : Try.pinned.checked.prog.varsNamed 13 = [] := by kernel_rfl
theorem closed : joinedFacts Try.pinned.checked.prog 13 Try.f13 Rows.fnExactLayersOfSpec Rows.fnExactLayersOfRow = true := by
  unfold joinedFacts
  rw [fact1, fact2, fact3, fact4]
  kernel_rfl
end Go.Proofs.Ytphpdfcblchpnaa.fnExactLayersOf
