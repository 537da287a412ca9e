/- Parts of the proof: printed texts, words and own texts, cut to what is used. -/
import Derived.Test.YtphpdfcblchpnaaZT12
namespace Go.Proofs.YtphpdfcblchpnaaH
set_option linter.unusedSimpArgs false
open Go.RowKit Go.Proofs.Ytphpdfcblchpnaa.Q Go.Proofs.YtphpdfcblchpnaaW.PrintWords Go.Proofs.YtphpdfcblchpnaaW.PrintLast Go.Proofs.YtphpdfcblchpnaaL
set_option maxRecDepth 100000 in
theorem tells121 {l : List S26} {n : Int} {b : Bool} (h : TellsIB 123 l n b) : TellsBB 121 l (decide (n = 1)) b := by
  intro A0 c0 w hr0 hc0
  have h2 := h A0 c0 w hr0 hc0
  clear h
  go_enter Try.func121, Try.ntmps121
  go_wp2_with (go_at_call 123; refine h2.mono ?_; rintro e w1 ⟨rfl, hb⟩)
  go_ret2
  exact ⟨rfl, hb⟩
end Go.Proofs.YtphpdfcblchpnaaH
namespace Go.Proofs.Ytphpdfcblchpnaa.D
open Go.RowKit Go.Proofs.Ytphpdfcblchpnaa.Q Go.Proofs.YtphpdfcblchpnaaW.PrintWords Go.Proofs.YtphpdfcblchpnaaW.PrintLast Go.Proofs.YtphpdfcblchpnaaW.PrintMore
open Go.Proofs.Ytphpdfcblchpnaa.M Go.Proofs.YtphpdfcblchpnaaH Go.Proofs.YtphpdfcblchpnaaL
theorem thin_both (l : List S26) : ∃ r1 r2, TellsBB 120 l r1 r2 ∧ TellsBB 121 l r1 r2 := by
  by_cases h : Poly (pgs l)
  · obtain ⟨area, v1, v2, w1, w2, B⟩ := ways_of h
    obtain ⟨q, hq, q1, q2, q3, q4⟩ := prog_least h B
    obtain ⟨e1, e2, e3, e4, e5⟩ := ways_wrap B
    refine ⟨decide (q = 1), true, ?_, tells121 hq⟩
    obtain ⟨R, hR, hRl⟩ := wiAll_many B.h3 e1 e2 e3 e4 e5 (B.db (most := 1) (by omega) (by omega))
    have hg := pgGood_ev l
    rw [dec_true h] at hg
    have hd : decide ((R.length : Int) > 0) = decide (q = 1) := by
      rw [hRl]
      by_cases c : q = 1
      · rw [decide_eq_true c]
        subst c
        exact decide_eq_true (by have := q3; unfold tellAll at this; omega)
      · rw [decide_eq_false c]
        have := q4 1 (by omega) (by omega)
        unfold tellAll at this
        exact decide_eq_false (by omega)
    have hs : Ev (fun k => spec_IsThin.f k l) (decide (q = 1), true) := by
      refine Ev.congr (f := fun k => (spec_pgGood.f k l).bind fun t => (if t = true then ((spec_wiAll.f k l 1).bind fun bt => (some (decide ((bt.length : Int) > 0), true))) else (some (false, false)))) (fun k => rfl) (Ev.bind hg ?_)
      refine Ev.congr (fun k => if_pos rfl) (Ev.bind hR ?_)
      rw [hd]
      exact Ev.now _
    obtain ⟨k, hk⟩ := hs.rounds
    exact fun A0 c0 w hr0 hc0 => spec_IsThin.calls k A0 c0 l _ true w hr0 hc0 hk
  · refine ⟨false, false, ?_, ?_⟩
    · have hg := pgGood_ev l
      rw [dec_false h] at hg
      have hs : Ev (fun k => spec_IsThin.f k l) (false, false) := by
        refine Ev.congr (f := fun k => (spec_pgGood.f k l).bind fun t => (if t = true then ((spec_wiAll.f k l 1).bind fun bt => (some (decide ((bt.length : Int) > 0), true))) else (some (false, false)))) (fun k => rfl) (Ev.bind hg ?_)
        exact Ev.congr (fun k => if_neg (by simp)) (Ev.now _)
      obtain ⟨k, hk⟩ := hs.rounds
      exact fun A0 c0 w hr0 hc0 => spec_IsThin.calls k A0 c0 l false false w hr0 hc0 hk
    · have hg := isPolygon_ev l
      rw [dec_false h] at hg
      obtain ⟨k, hk⟩ := hg.rounds
      exact tells121 (tells123_no hk)
theorem w11 (l : List S97) (a : Option Addr) (c : Nat) (W : World) (h : l.length ≤ maxLen) (hC : Kd.C k97 W a l.length l) (hc : l.length ≤ c) : Calls Try.prog 11 #[.slice a l.length c] W fun e W' => e = .returned (.bool true) ∧ Below W.heap.size W W' := by
  by_cases hs : l.length ≤ 1048576
  · obtain ⟨r1, r2, t1, t2⟩ := thin_both (l.map to26)
    obtain ⟨K1, h1⟩ := toPegS_ev l (by omega)
    obtain ⟨K2, h2⟩ := eqPegS_ev (l.map to26) (by simp; omega)
    exact law11 hs (h1 (K1 + K2) (by omega)) (h2 (K1 + K2) (by omega)) t1 t2 a c W hC hc
  · exact law11_big (by omega) h a c W hC hc
end Go.Proofs.Ytphpdfcblchpnaa.D
