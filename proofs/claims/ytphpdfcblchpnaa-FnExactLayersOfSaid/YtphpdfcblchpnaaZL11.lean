/- Parts of the proof: printed texts, words and own texts, cut to what is used. -/
import Derived.Test.YtphpdfcblchpnaaZL10
namespace Go.Proofs.Ytphpdfcblchpnaa.D
open Go.RowKit Go.Proofs.Ytphpdfcblchpnaa.Q Go.Proofs.YtphpdfcblchpnaaW.PrintWords Go.Proofs.YtphpdfcblchpnaaW.PrintLast Go.Proofs.YtphpdfcblchpnaaW.PrintMore
open Go.Proofs.Ytphpdfcblchpnaa.M
set_option maxRecDepth 100000 in
set_option maxHeartbeats 2000000 in
theorem law13_big {l : List S97} (hs : 1048576 < l.length) (hm : l.length ≤ maxLen) (A0 : Option Addr) (c0 : Nat) (w : World) (hr0 : Kd.C k97 w A0 l.length l) (hc0 : l.length ≤ c0) :
    Calls Try.prog 13 #[.slice A0 l.length c0] w fun e w' => e = .returned (.bool true) ∧ Below w.heap.size w w' := by
  have hm' : l.length ≤ 9223372036854775807 := hm
  have e1 : wrap64 ((1048576 : Int) - (l.length : Int)) < 0 := by
    unfold wrap64
    omega
  have hsz := laws_szPegS.calls A0 c0 l 1048576 (-1) w hr0 hc0 (by unfold laws_szPegS.f; rw [if_pos e1])
  clear e1 hr0 hc0 hs
  go_enter Try.func13, Try.ntmps13
  go_wp2_with (go_at_call 35; refine hsz.mono ?_; rintro e w1 ⟨rfl, hd⟩; have b1 := Aside0.mk hd.below)
  go_ret
  exact ⟨rfl, b1.out⟩
theorem w13 (l : List S97) (a : Option Addr) (c : Nat) (W : World) (h : l.length ≤ maxLen) (hC : Kd.C k97 W a l.length l) (hc : l.length ≤ c) : Calls Try.prog 13 #[.slice a l.length c] W fun e W' => e = .returned (.bool true) ∧ Below W.heap.size W W' := by
  by_cases hs : l.length ≤ 1048576
  · obtain ⟨⟨rs, bo⟩, h1, h2, hrl, hrx⟩ := layers_both (l.map to26)
    have hrl : rs.length ≤ 1000 := hrl
    have hrx : ∀ x ∈ rs, x.length ≤ 100 := hrx
    have hsum := sumAll_le rs 100 hrx
    have hsum2 : rs.length * 100 ≤ 1000 * 100 := Nat.mul_le_mul_right _ hrl
    obtain ⟨K1, p1⟩ := toPegS_ev l (by omega)
    obtain ⟨K2, p2⟩ := eqPegS_ev (l.map to26) (by simp; omega)
    obtain ⟨K3, p3⟩ := h1
    obtain ⟨K4, p4⟩ := h2
    obtain ⟨K5, p5⟩ := eqSS_ev rs (by omega) (fun x hx => by have := hrx x hx; omega)
    obtain ⟨K6, p6⟩ := mark_ev (l.map to26) 1 (by omega) (by omega) (by simp; omega)
    obtain ⟨K7, p7⟩ := heldSS_ev rs 1 (by omega) (by omega) (by omega)
    obtain ⟨k, hk⟩ : ∃ k, k = K1 + K2 + K3 + K4 + K5 + K6 + K7 := ⟨_, rfl⟩
    exact law13 (k := k) hs (p1 k (by omega)) (p2 k (by omega)) (p4 k (by omega)) (p3 k (by omega)) (p5 k (by omega)) (p6 k (by omega)) (p7 k (by omega)) (by omega) (by omega) a c W hC hc
  · exact law13_big (by omega) h a c W hC hc
end Go.Proofs.Ytphpdfcblchpnaa.D
