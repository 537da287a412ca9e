/- Parts of the proof: printed texts, words and own texts, cut to what is used. -/
import Derived.Shelf.Spec.SlicesGrow
import Derived.Test.YtphpdfcblchpnaaZL5
namespace Go.Proofs.YtphpdfcblchpnaaH
open Go.RowKit Go.Shelf Go.Lib Go.Sort Go.Proofs.Ytphpdfcblchpnaa.Q Go.Proofs.YtphpdfcblchpnaaW.PrintWords Go.Proofs.YtphpdfcblchpnaaW.PrintLast
def grow_ren : Go.Shelf.Ren := ⟨fun | 4 => 299 | n => n, fun | 22 => 24 | 25 => 26 | n => n, fun | n => n⟩
theorem grow_lays : Go.Proofs.Lays8.n4 Try.prog grow_ren := {
  mixed := by kernel_rfl,
  f4 := ⟨Try.f299.name, by decide, Try.func299.trans (congrArg some (by kernel_rfl))⟩,
  t0 := Try.underlying0,
  a0 := Try.isAgg0,
  z0 := Try.sizeOf0,
  v0 := Try.zeroValue0,
  t3 := Try.underlying3,
  a3 := Try.isAgg3,
  z3 := Try.sizeOf3,
  v3 := Try.zeroValue3,
  t4 := Try.underlying4,
  a4 := Try.isAgg4,
  z4 := Try.sizeOf4,
  v4 := Try.zeroValue4,
  t9 := Try.underlying9,
  a9 := Try.isAgg9,
  z9 := Try.sizeOf9,
  v9 := Try.zeroValue9,
  t20 := Try.underlying20,
  a20 := Try.isAgg20,
  z20 := Try.sizeOf20,
  v20 := Try.zeroValue20,
  t22 := Try.underlying24,
  a22 := Try.isAgg24,
  z22 := Try.sizeOf24,
  v22 := Try.zeroValue24 }
theorem grow_nil (n : Int) (h0 : 0 ≤ n) (h1 : n ≤ 1000000000) (w : World) :
    Calls Try.prog 299 #[.slice none 0 0, .int .i64 n] w fun e w' => ∃ v, e = .returned v ∧ Kd.R k26 26 w' w.heap.size (fun _ => True) v [] ∧ Below w.heap.size w w' := by
  obtain ⟨m, rfl⟩ := Int.eq_ofNat_of_zero_le h0
  by_cases hm : m = 0
  · subst hm
    refine (Any8.slices_Grow_room grow_lays none 0 0 0 w (Nat.le_refl _) (by omega) (by omega) (by omega)).mono ?_
    rintro e w' ⟨rfl, rfl⟩
    exact ⟨_, rfl, Kd.R_nil _ _ _ _ _, Below.refl _ _⟩
  · obtain ⟨i0, hi, hzz⟩ := Option.map_eq_some_iff.1 info26
    simp only [Prod.mk.injEq] at hzz
    obtain ⟨hz0, hz1, hz2⟩ := hzz
    refine (Any8.slices_Grow_grow grow_lays i0 _ hi hz0 (by rw [hz1]; decide) none 0 0 m [] w (Nat.le_refl _) (by omega) (by rw [hz2]; omega) (by omega) (by simp) (fun _ => rfl) (fun a ha => by cases ha)).mono ?_
    rintro e w' ⟨rfl, rfl⟩
    obtain ⟨G, hG⟩ : ∃ G, G = grownCap w (0 + m) 0 26 := ⟨_, rfl⟩
    have hGn : 0 + m ≤ G := by rw [hG]; exact grownCap_ge w _ _ _
    have hGm : G ≤ maxLen := by
      have := grownCap_le_maxLen w (0 + m) 0 26 (by unfold maxLen; omega)
      rw [← hG] at this
      exact this
    have e26 : grow_ren.t 25 = 26 := rfl
    rw [e26, ← hG]
    refine ⟨_, rfl, ?_, ?_⟩
    · refine R_of_cells (ys := []) (Nat.le_refl _) (heap_alloc_new w.drew _) (Nat.zero_le _) hGm ?_ trivial (fun t ht => by simp at ht)
      simp [Builtin.zeroCells, Value.cells]
      omega
    · exact (Below.drew (Below.refl _ w)).alloc (Nat.le_refl _) _
end Go.Proofs.YtphpdfcblchpnaaH
