/- Parts of the proof: printed texts, words and own texts, cut to what is used. -/
import Derived.Below
import Derived.Carry
import Derived.ChangeOld
import Derived.Deep.SlicePairs
import Derived.OpenShut
import Derived.ProofKit
import Derived.ShutString
import Derived.SizedLaws
import Derived.Test.YtphpdfcblchpnaaRows
import Derived.WalkKit
import Derived.Test.YtphpdfcblchpnaaZL11
namespace Go.Proofs.Ytphpdfcblchpnaa.fnExactLayersOf
open Go.ChangeShapes Go.WideShapes Go.ChangeAt Go.RowKit Go.Deep Go.Proofs.Ytphpdfcblchpnaa.Q Go.Proofs.YtphpdfcblchpnaaW.PrintWords
theorem own : ownKnob Try.prog.godebug = none := by kernel_rfl
theorem laidOut : laidOutB Try.prog = true := by kernel_rfl
theorem pegs_of {H : Type} {enc : TypeId × Value → H} {W : World} {fuel : Nat} {a : Option Addr} {len cap : Nat} {x : DataW H × List MemPlace}
    (h : DataW.trod enc Try.prog W 0 (fun _ => true) true fuel 47 [.slice a len cap] = some x) : ∃ l : List S97, l.length = len ∧ len ≤ cap ∧ cap ≤ maxLen ∧ Kd.C k97 W a l.length l := by
  rcases open_slice_pairs Try.underlying47 Try.underlying97 (by kernel_rfl) (by rfl) (by rfl) (by kernel_rfl) (by kernel_rfl) h with ⟨hcs, _⟩ | ⟨ad, ln, c, m, n, V0, V1, D0, D1, P0, P1, hcs, _, hl, hm, hmm, _, hx⟩
  · simp at hcs
    obtain ⟨rfl, rfl, rfl⟩ := hcs
    exact ⟨[], rfl, Nat.le_refl _, Nat.zero_le _, rfl, by simp, fun h => absurd h (Nat.lt_irrefl _)⟩
  · simp at hcs
    obtain ⟨rfl, rfl, rfl⟩ := hcs
    have hlm : len ≤ m := by
      rw [hmm]
      simp [hl]
    have hv : ∀ i, i < len → V0 i = .int .i64 (intOf (V0 i)) ∧ V1 i = .int .i64 (intOf (V1 i)) := by
      intro i hi
      obtain ⟨_, _, h0, h1⟩ := hx i (by omega)
      obtain ⟨n0, e0, _⟩ := DataW.trod_int Try.underlying3 h0
      obtain ⟨n1, e1, _⟩ := DataW.trod_int Try.underlying3 h1
      simp at e0 e1
      rw [e0, e1]
      exact ⟨rfl, rfl⟩
    refine ⟨(List.range len).map fun i => ⟨intOf (V0 i), intOf (V1 i)⟩, by simp, hl, hm, rfl, ?_, fun _ => ⟨ad, rfl, fun j p hp => ?_⟩⟩
    · have : maxLen = 9223372036854775807 := rfl
      simp
      omega
    · obtain ⟨hj, e⟩ := List.getElem?_eq_some_iff.1 hp
      simp at hj e
      subst e
      obtain ⟨c0, c1, _⟩ := hx j (by omega)
      obtain ⟨v0, v1⟩ := hv j hj
      refine ⟨_, rfl, k97_mk W _, fun i u hi => ?_⟩
      rcases i with _ | _ | i
      · simp at hi
        subst hi
        rw [← v0]
        exact c0
      · simp at hi
        subst hi
        rw [← v1]
        exact c1
      · simp at hi
set_option maxRecDepth 100000 in
theorem lifted (os : Os) (started : os.Started) (H : Type) (enc : TypeId × Value → H) :
    ReturnsInHanded {} Try.checked os 13 .any (Rows.fnExactLayersOfSpec.pre6 enc Try.prog Try.f13 Rows.fnExactLayersOfRow.domain false) (Rows.fnExactLayersOfSpec.post enc Try.prog Try.f13 false true false false) := by
  refine returnsInHanded_of_change_sized (C := Try.checked) own started (by kernel_rfl) Try.func13
    (ChangeSpec.witness6 (enc := enc) (C := Try.checked) false ⟨#[], #[.slice none 0 0], []⟩ 8 (by kernel_rfl) (by kernel_rfl) (by kernel_rfl) (by kernel_rfl)) ?_
  intro W base args ds gs before hval0 hW hcnd hsz0 _
  have hval : ∀ (j : Nat) t v, Try.f13.params[j]? = some t → args[j]? = some v → Value.okWide Try.prog W .any base t v := hval0
  have hW' := hW
  obtain ⟨p, q, hA0, hV, rfl, hfz, hnd⟩ := hW
  have hA : DataW.TrodAll enc Try.prog W 0 (fun _ => true) true Try.f13.params.toList args.toList ds p := hA0
  rw [Try.params13] at hA hval
  obtain ⟨v0, vs0, d0, ds0, p0, q0, hargs, rfl, rfl, h0, r0⟩ := trodAll_cons hA
  obtain ⟨rfl, rfl, rfl⟩ := trodAll_nil r0
  obtain rfl : args = #[v0] := by cases args; simp_all
  obtain ⟨rfl, rfl⟩ := trodVars_none hV
  obtain ⟨a0, len0, cap0, rfl⟩ := okWide_slice Try.underlying47 (hval 0 47 v0 rfl rfl)
  have k0 := h0
  have lt0 : ∀ x ∈ p0, x.block < W.heap.size := by obtain ⟨m, hm⟩ := k0; exact DataW.trod_lt m _ _ _ hm
  obtain ⟨l, rfl, hc, hm, hC⟩ : ∃ l : List S97, l.length = len0 ∧ len0 ≤ cap0 ∧ cap0 ≤ maxLen ∧ Kd.C k97 W a0 l.length l := by
    obtain ⟨fuel, hf⟩ := h0
    exact pegs_of hf
  clear hA0 hval0 hsz0
  refine (D.w13 l a0 cap0 W (Nat.le_trans hc hm) hC hc).mono fun e W' ⟨he, bel⟩ => ?_
  subst he
  exact ⟨_, rfl, _, _, _, [], _, [], hW', trodAll_mk1 (shut_bool Try.underlying4 _), (trodAll_cons_mk (Below.trod laidOut (by kernel_rfl) (of_decide_eq_true (by kernel_rfl)) k0 bel lt0) trodAll_mk0), rfl, bel.frame _, fun h => by cases h⟩
end Go.Proofs.Ytphpdfcblchpnaa.fnExactLayersOf
