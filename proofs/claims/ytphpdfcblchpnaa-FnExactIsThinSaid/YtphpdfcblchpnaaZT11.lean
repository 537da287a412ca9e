/- Parts of the proof: printed texts, words and own texts, cut to what is used. -/
import Derived.Test.YtphpdfcblchpnaaZT10
namespace Go.Proofs.YtphpdfcblchpnaaH
set_option linter.unusedSimpArgs false
open Go.RowKit Go.Shelf Go.Lib Go.Sort Go.Proofs.Ytphpdfcblchpnaa.Q Go.Proofs.YtphpdfcblchpnaaW.PrintWords Go.Proofs.YtphpdfcblchpnaaW.PrintLast Go.Proofs.YtphpdfcblchpnaaL
set_option maxRecDepth 100000 in
theorem tells123_no {k : Nat} {l : List S26} (hp : impl_IsPolygon.f k l = some false) : TellsIB 123 l 0 false := by
  intro A0 c0 w hr0 hc0
  have h := impl_IsPolygon.calls k A0 c0 l false w hr0 hc0 hp
  go_enter Try.func123, Try.ntmps123
  go_wp2_with (go_at_call 53; refine h.mono ?_; rintro e w1 ⟨rfl, hb⟩)
  go_ret2
  exact ⟨rfl, hb⟩
set_option maxRecDepth 100000 in
theorem tells123_yes {k : Nat} {l : List S26} (hp : impl_IsPolygon.f k l = some true) (hw : ∀ x y, (impl_width.f k l x y).isSome = true) (dirs : List S26)
    (hd : impl_directions.f k l (mn (wdOf k l 1 0) (wdOf k l 0 1)) = some dirs) (hne : 0 < dirs.length) (hlen : dirs.length ≤ 1000000000) : TellsIB 123 l (mostOf k l dirs) true := by
  intro A0 c0 w hr0 hc0
  have h := impl_IsPolygon.calls k A0 c0 l true w hr0 hc0 hp
  have h2 : ∀ W, Below w.heap.size w W → Calls Try.prog 222 #[.slice A0 l.length c0] W fun e w' => (∃ v, e = .returned (.tuple #[v, .int .i64 (mostOf k l dirs)])) ∧ Below W.heap.size W w' := fun W hW =>
    least_most hw A0 c0 W (Kd.C_below hr0 hW) hc0 dirs hd hne hlen
  clear hr0 hc0 hp hw hd
  have H2 := Aside0.mk h2
  clear h2
  go_enter Try.func123, Try.ntmps123
  go_wp2_with (first
    | (go_at_call 53; refine h.mono ?_; rintro e w1 ⟨rfl, hb⟩; have HB := Aside0.mk hb; clear hb)
    | (go_at_call 222; refine (H2.out w1 HB.out).mono ?_; rintro e w2 ⟨⟨v, rfl⟩, hb2⟩))
  go_ret2
  exact ⟨rfl, HB.out.trans (hb2.mono HB.out.size)⟩
end Go.Proofs.YtphpdfcblchpnaaH
namespace Go.Proofs.Ytphpdfcblchpnaa.D
open Go.RowKit Go.Proofs.Ytphpdfcblchpnaa.Q Go.Proofs.YtphpdfcblchpnaaW.PrintWords Go.Proofs.YtphpdfcblchpnaaW.PrintLast Go.Proofs.YtphpdfcblchpnaaW.PrintMore
open Go.Proofs.Ytphpdfcblchpnaa.M Go.Proofs.YtphpdfcblchpnaaH Go.Proofs.YtphpdfcblchpnaaL
theorem pgs_getD (l : List S26) (i : Nat) (h : i < l.length) : at' (pgs l) i = ((l.getD i z26).f0, (l.getD i z26).f1) := by
  rw [at'_of _ _ (by rw [pgs_length]; exact h)]
  simp [pgs, pg, List.getD, h]
theorem ways_of {l : List S26} (h : Poly (pgs l)) : ∃ area v1 v2 w1 w2, Ways l area v1 v2 w1 w2 := by
  have h3 := h.n3
  have h10 := h.n10
  rw [pgs_length] at h3 h10
  refine ⟨_, _, _, _, _, ⟨h3, by omega, fun p hp => h.pegs _ (List.mem_map_of_mem hp), rfl, rfl, rfl, rfl, rfl, ?_⟩⟩
  have t := h.turns 0 (by rw [pgs_length]; omega)
  rw [pgs_getD l 0 (by omega), pgs_getD l 1 (by omega), pgs_getD l 2 (by omega)] at t
  unfold turn at t
  exact t
theorem ways_wrap {l : List S26} {area v1 v2 w1 w2 : Int} (B : Ways l area v1 v2 w1 w2) : wrap64 ((l.getD 1 z26).f0 - (l.getD 0 z26).f0) = v1 ∧ wrap64 ((l.getD 1 z26).f1 - (l.getD 0 z26).f1) = v2 ∧
    wrap64 ((l.getD 2 z26).f0 - (l.getD 0 z26).f0) = w1 ∧ wrap64 ((l.getD 2 z26).f1 - (l.getD 0 z26).f1) = w2 ∧ wrap64 (wrap64 (v1 * w2) - wrap64 (v2 * w1)) = area := by
  have p0 := B.peg 0 (by omega)
  have p1 := B.peg 1 (by omega)
  have p2 := B.peg 2 (by omega)
  have DB0 := B.db (most := 1) (by omega) (by omega)
  have m1 := mul_bd (x := v1) (y := w2) (A := 100) DB0.v1l DB0.v1h DB0.w2l DB0.w2h
  have m2 := mul_bd (x := v2) (y := w1) (A := 100) DB0.v2l DB0.v2h DB0.w1l DB0.w1h
  refine ⟨?_, ?_, ?_, ?_, ?_⟩
  · rw [B.e1]; exact w64 (by omega) (by omega)
  · rw [B.e2]; exact w64 (by omega) (by omega)
  · rw [B.e3]; exact w64 (by omega) (by omega)
  · rw [B.e4]; exact w64 (by omega) (by omega)
  · rw [B.ea, w64 (x := v1 * w2) (by omega) (by omega), w64 (x := v2 * w1) (by omega) (by omega)]
    exact w64 (by omega) (by omega)
theorem prog_least {l : List S26} (h : Poly (pgs l)) {area v1 v2 w1 w2 : Int} (B : Ways l area v1 v2 w1 w2) :
    ∃ q, TellsIB 123 l q true ∧ 1 ≤ q ∧ q ≤ 200 ∧ 0 < (tellAll l area v1 v2 w1 w2 q).length ∧ ∀ t, 1 ≤ t → t < q → (tellAll l area v1 v2 w1 w2 t).length = 0 := by
  have h3 := B.h3
  obtain ⟨e1, e2, e3, e4, e5⟩ := ways_wrap B
  have hw1 : widw l 1 0 ≤ 80 := widw_le (A := 40) (by omega) (by omega) (by omega) (by omega) (by omega) (by omega) B.hn (fun p hp => by have := B.hn p hp; have a : -40 ≤ p.f0 := this.1; have b : p.f0 ≤ 40 := this.2.1; omega)
  have hw0 : 0 ≤ widw l 1 0 := by have := width_pos B (s := ⟨1, 0⟩) ⟨rfl, .inl (by decide)⟩ ⟨by decide, by decide, by decide, by decide⟩; have : 1 ≤ widw l 1 0 := this; omega
  have hw2 : 0 ≤ widw l 0 1 := by have := width_pos B (s := ⟨0, 1⟩) ⟨rfl, .inr ⟨rfl, rfl⟩⟩ ⟨by decide, by decide, by decide, by decide⟩; have : 1 ≤ widw l 0 1 := this; omega
  obtain ⟨m0, hm0⟩ : ∃ m0, m0 = min (widw l 1 0) (widw l 0 1) := ⟨_, rfl⟩
  have hperm : (sortPg (tellAll l area v1 v2 w1 w2 m0)).Perm (tellAll l area v1 v2 w1 w2 m0) := sortPg_perm _
  obtain ⟨hpos, q, hq, q1, q2, q3, q4⟩ := least_core B (by omega) hm0 hperm
  refine ⟨q, ?_, q1, q2, q3, q4⟩
  have DB0 := B.db (most := m0) (by omega) (by omega)
  have hlen : 0 < (tellAll l area v1 v2 w1 w2 m0).length := by rw [← hperm.length_eq]; exact hpos
  have hg := isPolygon_ev l
  rw [dec_true h] at hg
  have hd := directions_ev h3 e1 e2 e3 e4 e5 DB0 hlen
  obtain ⟨K1, hK1⟩ := hg
  obtain ⟨K2, hK2⟩ := hd
  obtain ⟨k, hk⟩ : ∃ k, k = K1 + K2 + l.length + 1 := ⟨_, rfl⟩
  have hwd : ∀ x y, impl_width.f k l x y = some (widw l x y) := fun x y => width_eq l B.h4 (by omega) k (by omega) x y
  have hwo : ∀ x y, wdOf k l x y = widw l x y := fun x y => by unfold wdOf; rw [hwd]; rfl
  have := tells123_yes (k := k) (l := l) (hK1 k (by omega)) (fun x y => by rw [hwd]; rfl) (sortPg (tellAll l area v1 v2 w1 w2 m0)) (by rw [hwo, hwo, mn_eq, ← hm0]; exact hK2 k (by omega)) hpos (by
    rw [hperm.length_eq]
    have : ∀ d m, (tell2 l m0 area v1 v2 w1 w2 m d).length ≤ d * 401 := by
      intro d
      induction d with
      | zero => intro m; exact Nat.zero_le _
      | succ d ih =>
        intro m
        unfold tell2
        rw [List.length_append]
        have a := tell1_len l m0 area v1 v2 w1 w2 m (2 * m0 + 1).toNat (-m0)
        have b := ih (m + 1)
        omega
    have := this (2 * m0 + 1).toNat (-m0)
    unfold tellAll
    omega)
  have e : mostOf k l (sortPg (tellAll l area v1 v2 w1 w2 m0)) = q := by
    rw [← hq]
    unfold mostOf
    simp only [hwo]
  rw [e] at this
  exact this
theorem least_both (l : List S26) : ∃ r1 r2, TellsIB 122 l r1 r2 ∧ TellsIB 123 l r1 r2 := by
  by_cases h : Poly (pgs l)
  · obtain ⟨area, v1, v2, w1, w2, B⟩ := ways_of h
    have h3 := B.h3
    obtain ⟨q, hq, q1, q2, q3, q4⟩ := prog_least h B
    obtain ⟨e1, e2, e3, e4, e5⟩ := ways_wrap B
    refine ⟨q, true, ?_, hq⟩
    obtain ⟨R, hR⟩ := wiLeast_ev (l := l) (fun q => (tellAll l area v1 v2 w1 w2 q).length) q1 q2 (fun t t1 t2 => wiAll_many h3 e1 e2 e3 e4 e5 (B.db (by omega) (by omega))) q3 (fun t t1 t2 => q4 t t1 t2)
    have hg := pgGood_ev l
    rw [dec_true h] at hg
    have hs : Ev (fun k => spec_LeastWidth.f k l) (q, true) := by
      refine Ev.congr (f := fun k => (spec_pgGood.f k l).bind fun t => (if t = true then ((spec_wiLeast.f k l).bind fun bt => (some (bt.1, true))) else (some (0, false)))) (fun k => rfl) (Ev.bind hg ?_)
      refine Ev.congr (fun k => if_pos rfl) (Ev.bind hR (Ev.now _))
    obtain ⟨k, hk⟩ := hs.rounds
    exact fun A0 c0 w hr0 hc0 => spec_LeastWidth.calls k A0 c0 l q true w hr0 hc0 hk
  · refine ⟨0, false, ?_, ?_⟩
    · have hg := pgGood_ev l
      rw [dec_false h] at hg
      have hs : Ev (fun k => spec_LeastWidth.f k l) (0, false) := by
        refine Ev.congr (f := fun k => (spec_pgGood.f k l).bind fun t => (if t = true then ((spec_wiLeast.f k l).bind fun bt => (some (bt.1, true))) else (some (0, false)))) (fun k => rfl) (Ev.bind hg ?_)
        exact Ev.congr (fun k => if_neg (by simp)) (Ev.now _)
      obtain ⟨k, hk⟩ := hs.rounds
      exact fun A0 c0 w hr0 hc0 => spec_LeastWidth.calls k A0 c0 l 0 false w hr0 hc0 hk
    · have hg := isPolygon_ev l
      rw [dec_false h] at hg
      obtain ⟨k, hk⟩ := hg.rounds
      exact tells123_no hk
theorem w12 (l : List S97) (a : Option Addr) (c : Nat) (W : World) (h : l.length ≤ maxLen) (hC : Kd.C k97 W a l.length l) (hc : l.length ≤ c) : Calls Try.prog 12 #[.slice a l.length c] W fun e w' => e = .returned (.bool true) ∧ Below W.heap.size W w' := by
  by_cases hs : l.length ≤ 1048576
  · obtain ⟨r1, r2, t1, t2⟩ := least_both (l.map to26)
    obtain ⟨K1, h1⟩ := toPegS_ev l (by omega)
    obtain ⟨K2, h2⟩ := eqPegS_ev (l.map to26) (by simp; omega)
    exact law12 hs (h1 (K1 + K2) (by omega)) (h2 (K1 + K2) (by omega)) t1 t2 a c W hC hc
  · exact law12_big (by omega) h a c W hC hc
end Go.Proofs.Ytphpdfcblchpnaa.D
