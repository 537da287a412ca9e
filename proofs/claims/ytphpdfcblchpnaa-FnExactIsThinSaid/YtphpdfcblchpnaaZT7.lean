/- Parts of the proof: printed texts, words and own texts, cut to what is used. -/
import Derived.Test.YtphpdfcblchpnaaZT6
namespace Go.Proofs.Ytphpdfcblchpnaa.D
open Go.RowKit Go.Proofs.Ytphpdfcblchpnaa.Q Go.Proofs.YtphpdfcblchpnaaW.PrintWords Go.Proofs.YtphpdfcblchpnaaW.PrintLast Go.Proofs.YtphpdfcblchpnaaW.PrintMore
open Go.Proofs.Ytphpdfcblchpnaa.M
structure Ways (l : List S26) (area v1 v2 w1 w2 : Int) : Prop where
  h3 : 3 ≤ l.length
  h4 : l.length ≤ 1000000
  hn : near l
  e1 : v1 = (l.getD 1 z26).f0 - (l.getD 0 z26).f0
  e2 : v2 = (l.getD 1 z26).f1 - (l.getD 0 z26).f1
  e3 : w1 = (l.getD 2 z26).f0 - (l.getD 0 z26).f0
  e4 : w2 = (l.getD 2 z26).f1 - (l.getD 0 z26).f1
  ea : area = v1 * w2 - v2 * w1
  a0 : area ≠ 0
variable {l : List S26} {area v1 v2 w1 w2 : Int}
theorem Ways.mem (B : Ways l area v1 v2 w1 w2) (i : Nat) (hi : i < 3) : l.getD i z26 ∈ l := by
  have := B.h3
  rw [List.getD_eq_getElem?_getD, List.getElem?_eq_getElem (by omega)]
  exact List.getElem_mem _
theorem Ways.peg (B : Ways l area v1 v2 w1 w2) (i : Nat) (hi : i < 3) : -40 ≤ (l.getD i z26).f0 ∧ (l.getD i z26).f0 ≤ 40 ∧ -40 ≤ (l.getD i z26).f1 ∧ (l.getD i z26).f1 ≤ 40 := B.hn _ (B.mem i hi)
theorem Ways.db (B : Ways l area v1 v2 w1 w2) {most : Int} (h0 : 0 ≤ most) (h1 : most ≤ 200) : DB l most area v1 v2 w1 w2 := by
  have p0 := B.peg 0 (by omega)
  have p1 := B.peg 1 (by omega)
  have p2 := B.peg 2 (by omega)
  have a := B.h3
  have b := B.e1
  have c := B.e2
  have d := B.e3
  have e := B.e4
  exact ⟨by omega, B.h4, h0, h1, B.a0, by omega, by omega, by omega, by omega, by omega, by omega, by omega, by omega⟩
def tellAll (l : List S26) (area v1 v2 w1 w2 most : Int) : List S26 := tell2 l most area v1 v2 w1 w2 (-most) (2 * most + 1).toNat
def good (s : S26) : Prop := Int.gcd s.f0 s.f1 = 1 ∧ (0 < s.f0 ∨ s.f0 = 0 ∧ s.f1 = 1)
theorem tellAll_of (B : Ways l area v1 v2 w1 w2) {most : Int} (h0 : 0 ≤ most) (h1 : most ≤ 200) {s : S26} (h : s ∈ tellAll l area v1 v2 w1 w2 most) :
    good s ∧ widw l s.f0 s.f1 ≤ most ∧ (-100000 ≤ s.f0 ∧ s.f0 ≤ 100000 ∧ -100000 ≤ s.f1 ∧ s.f1 ≤ 100000) := by
  unfold tellAll at h
  rw [mem_tell2 l most area v1 v2 w1 w2 h0] at h
  obtain ⟨j, i, j1, j2, i1, i2, ht, rfl⟩ := h
  obtain ⟨_, _, x1, x2, y1, y2⟩ := (B.db h0 h1).xs (m := j) (n := i) (by omega) (by omega) i1 i2
  obtain ⟨_, _, hg, hh, hw⟩ := ht
  have a := tdiv_bd _ area x1 x2
  have b := tdiv_bd _ area y1 y2
  exact ⟨⟨hg, hh⟩, hw, a.1, a.2, b.1, b.2⟩
theorem ways_le (B : Ways l area v1 v2 w1 w2) {x y : Int} (hx1 : -100000 ≤ x) (hx2 : x ≤ 100000) (hy1 : -100000 ≤ y) (hy2 : y ≤ 100000) :
    (x * v1 + y * v2 ≤ widw l x y ∧ -(x * v1 + y * v2) ≤ widw l x y) ∧ x * w1 + y * w2 ≤ widw l x y ∧ -(x * w1 + y * w2) ≤ widw l x y := by
  have h3 := B.h3
  have a := widw_ge (l := l) (by omega) hx1 hx2 hy1 hy2 B.hn (B.mem 1 (by omega)) (B.mem 0 (by omega))
  have b := widw_ge (l := l) (by omega) hx1 hx2 hy1 hy2 B.hn (B.mem 0 (by omega)) (B.mem 1 (by omega))
  have c := widw_ge (l := l) (by omega) hx1 hx2 hy1 hy2 B.hn (B.mem 2 (by omega)) (B.mem 0 (by omega))
  have d := widw_ge (l := l) (by omega) hx1 hx2 hy1 hy2 B.hn (B.mem 0 (by omega)) (B.mem 2 (by omega))
  rw [← B.e1, ← B.e2] at a
  rw [← B.e3, ← B.e4] at c
  have e : x * ((l.getD 0 z26).f0 - (l.getD 1 z26).f0) + y * ((l.getD 0 z26).f1 - (l.getD 1 z26).f1) = -(x * v1 + y * v2) := by rw [B.e1, B.e2]; grind
  have f : x * ((l.getD 0 z26).f0 - (l.getD 2 z26).f0) + y * ((l.getD 0 z26).f1 - (l.getD 2 z26).f1) = -(x * w1 + y * w2) := by rw [B.e3, B.e4]; grind
  omega
theorem tellAll_mem (B : Ways l area v1 v2 w1 w2) {most : Int} (h0 : 0 ≤ most) {s : S26} (hg : good s) (hb : -100000 ≤ s.f0 ∧ s.f0 ≤ 100000 ∧ -100000 ≤ s.f1 ∧ s.f1 ≤ 100000) (hw : widw l s.f0 s.f1 ≤ most) :
    s ∈ tellAll l area v1 v2 w1 w2 most := by
  unfold tellAll
  rw [mem_tell2 l most area v1 v2 w1 w2 h0]
  obtain ⟨⟨a, b⟩, c, d⟩ := ways_le B hb.1 hb.2.1 hb.2.2.1 hb.2.2.2
  have ex : (s.f0 * v1 + s.f1 * v2) * w2 - (s.f0 * w1 + s.f1 * w2) * v2 = s.f0 * area := by rw [B.ea]; grind
  have ey : (s.f0 * w1 + s.f1 * w2) * v1 - (s.f0 * v1 + s.f1 * v2) * w1 = s.f1 * area := by rw [B.ea]; grind
  have dx : Int.tdiv (s.f0 * area) area = s.f0 := Int.mul_tdiv_cancel _ B.a0
  have dy : Int.tdiv (s.f1 * area) area = s.f1 := Int.mul_tdiv_cancel _ B.a0
  refine ⟨s.f0 * v1 + s.f1 * v2, s.f0 * w1 + s.f1 * w2, by omega, by omega, by omega, by omega, ?_, ?_⟩
  · unfold told dirOf
    dsimp only
    rw [ex, ey, dx, dy]
    exact ⟨Int.mul_tmod_left _ _, Int.mul_tmod_left _ _, hg.1, hg.2, hw⟩
  · unfold dirOf
    dsimp only
    rw [ex, ey, dx, dy]
theorem width_pos (B : Ways l area v1 v2 w1 w2) {s : S26} (hg : good s) (hb : -100000 ≤ s.f0 ∧ s.f0 ≤ 100000 ∧ -100000 ≤ s.f1 ∧ s.f1 ≤ 100000) : 1 ≤ widw l s.f0 s.f1 := by
  obtain ⟨⟨a, b⟩, c, d⟩ := ways_le B hb.1 hb.2.1 hb.2.2.1 hb.2.2.2
  have ex : (s.f0 * v1 + s.f1 * v2) * w2 - (s.f0 * w1 + s.f1 * w2) * v2 = s.f0 * area := by rw [B.ea]; grind
  have ey : (s.f0 * w1 + s.f1 * w2) * v1 - (s.f0 * v1 + s.f1 * v2) * w1 = s.f1 * area := by rw [B.ea]; grind
  false_or_by_contra
  have z1 : s.f0 * v1 + s.f1 * v2 = 0 := by omega
  have z2 : s.f0 * w1 + s.f1 * w2 = 0 := by omega
  rw [z1, z2] at ex ey
  simp only [Int.zero_mul, Int.sub_zero] at ex ey
  have a0 := B.a0
  rcases Int.mul_eq_zero.1 ex.symm with h | h
  · rcases Int.mul_eq_zero.1 ey.symm with h' | h'
    · rcases hg.2 with g | g <;> omega
    · exact a0 h'
  · exact a0 h
theorem fold_le (F : S26 → Int) : ∀ (d : List S26) (m : Int), d.foldl (fun m s => mn m (F s)) m ≤ m ∧ ∀ s ∈ d, d.foldl (fun m s => mn m (F s)) m ≤ F s
  | [], m => ⟨Int.le_refl _, fun s hs => by cases hs⟩
  | a :: d, m => by
    obtain ⟨h1, h2⟩ := fold_le F d (mn m (F a))
    rw [mn_eq] at h1 h2
    rw [List.foldl_cons, mn_eq]
    refine ⟨by omega, fun s hs => ?_⟩
    rcases List.mem_cons.1 hs with rfl | hs
    · omega
    · exact h2 s hs
theorem fold_mem (F : S26 → Int) : ∀ (d : List S26) (m : Int), d.foldl (fun m s => mn m (F s)) m = m ∨ ∃ s ∈ d, d.foldl (fun m s => mn m (F s)) m = F s
  | [], m => .inl rfl
  | a :: d, m => by
    rw [List.foldl_cons]
    rcases fold_mem F d (mn m (F a)) with h | ⟨s, hs, h⟩
    · rw [h, mn_eq]
      by_cases c : m ≤ F a
      · exact .inl (by omega)
      · exact .inr ⟨a, by simp, by omega⟩
    · exact .inr ⟨s, by simp [hs], h⟩
theorem fold_least (F : S26 → Int) (d : List S26) (h : 0 < d.length) : ∃ s ∈ d, d.foldl (fun m s => mn m (F s)) (F (d.getD 0 z26)) = F s ∧ ∀ t ∈ d, F s ≤ F t := by
  obtain ⟨h1, h2⟩ := fold_le F d (F (d.getD 0 z26))
  rcases fold_mem F d (F (d.getD 0 z26)) with e | ⟨s, hs, e⟩
  · refine ⟨d.getD 0 z26, ?_, e, fun t ht => by have := h2 t ht; omega⟩
    rw [List.getD_eq_getElem?_getD, List.getElem?_eq_getElem h]
    exact List.getElem_mem _
  · exact ⟨s, hs, e, fun t ht => by have := h2 t ht; omega⟩
theorem least_core (B : Ways l area v1 v2 w1 w2) {m0 : Int} (h1 : m0 ≤ 200) (hm : m0 = min (widw l 1 0) (widw l 0 1)) {dirs : List S26} (hp : dirs.Perm (tellAll l area v1 v2 w1 w2 m0)) :
    0 < dirs.length ∧ ∃ q, dirs.foldl (fun m s => mn m (widw l s.f0 s.f1)) (widw l (dirs.getD 0 z26).f0 (dirs.getD 0 z26).f1) = q ∧ 1 ≤ q ∧ q ≤ 200 ∧ 0 < (tellAll l area v1 v2 w1 w2 q).length ∧ ∀ t, 1 ≤ t → t < q → (tellAll l area v1 v2 w1 w2 t).length = 0 := by
  have g1 : good ⟨1, 0⟩ := ⟨rfl, .inl (by decide)⟩
  have g2 : good ⟨0, 1⟩ := ⟨rfl, .inr ⟨rfl, rfl⟩⟩
  have p1 := width_pos B g1 ⟨by decide, by decide, by decide, by decide⟩
  have p2 := width_pos B g2 ⟨by decide, by decide, by decide, by decide⟩
  have p1 : 1 ≤ widw l 1 0 := p1
  have p2 : 1 ≤ widw l 0 1 := p2
  have hne : 0 < dirs.length := by
    rw [hp.length_eq]
    by_cases c : widw l 1 0 ≤ widw l 0 1
    · exact List.length_pos_of_mem (tellAll_mem B (by omega) g1 ⟨by decide, by decide, by decide, by decide⟩ (show widw l 1 0 ≤ m0 by omega))
    · exact List.length_pos_of_mem (tellAll_mem B (by omega) g2 ⟨by decide, by decide, by decide, by decide⟩ (show widw l 0 1 ≤ m0 by omega))
  refine ⟨hne, ?_⟩
  obtain ⟨s, hs, he, hall⟩ := fold_least (fun s => widw l s.f0 s.f1) dirs hne
  obtain ⟨sg, sw, sb⟩ := tellAll_of B (by omega) h1 (hp.mem_iff.1 hs)
  have sp := width_pos B sg sb
  refine ⟨widw l s.f0 s.f1, he, sp, by omega, List.length_pos_of_mem (tellAll_mem B (by omega) sg sb (Int.le_refl _)), fun t t1 t2 => ?_⟩
  false_or_by_contra
  rename_i hz
  obtain ⟨u, hu⟩ := List.exists_mem_of_length_pos (Nat.pos_of_ne_zero hz)
  obtain ⟨ug, uw, ub⟩ := tellAll_of B (by omega) (by omega) hu
  have := hall u (hp.mem_iff.2 (tellAll_mem B (by omega) ug ub (show widw l u.f0 u.f1 ≤ m0 by omega)))
  have : widw l s.f0 s.f1 ≤ widw l u.f0 u.f1 := this
  omega
end Go.Proofs.Ytphpdfcblchpnaa.D
namespace Go.Proofs.Ytphpdfcblchpnaa.D
open Go.RowKit Go.Proofs.Ytphpdfcblchpnaa.Q Go.Proofs.YtphpdfcblchpnaaW.PrintWords Go.Proofs.YtphpdfcblchpnaaW.PrintLast Go.Proofs.YtphpdfcblchpnaaW.PrintMore
open Go.Proofs.Ytphpdfcblchpnaa.M
def to26 (s : S97) : S26 := ⟨s.f0, s.f1⟩
theorem toPegS_loop (l : List S97) (hl : l.length ≤ 2000000) : ∀ (d i : Nat) (x : List S26), l.length - i = d → i ≤ l.length → x.length = l.length → x.take i = (l.map to26).take i →
    Ev (fun k => laws_toPegS.l0 k l x (i : Int)) (l.map to26) := by
  intro d
  induction d with
  | zero =>
    intro i x hd hi hx ht
    obtain rfl : i = l.length := by omega
    refine Ev.step (f := fun _ => some x) (fun k => ?_) ?_
    · simp only [laws_toPegS.l0]
      rw [if_neg (by omega)]
    · have e : x = l.map to26 := by
        rw [← hx, List.take_length] at ht
        rw [ht, hx, List.take_of_length_le (by simp)]
      rw [← e]
      exact Ev.now _
  | succ d ih =>
    intro i x hd hi hx ht
    have hr : rd_T97 l (i : Int) = l[i]'(by omega) := by
      have h : i < l.length := by omega
      simp [rd_T97, List.getD, h]
    refine Ev.step (f := fun k => laws_toPegS.l0 k l (x.set i (to26 (l[i]'(by omega)))) ((i + 1 : Nat) : Int)) (fun k => ?_) (ih (i + 1) (x.set i (to26 (l[i]'(by omega)))) (by omega) (by omega) (by simpa using hx) ?_)
    · simp only [laws_toPegS.l0]
      rw [if_pos (by omega), if_pos (by omega), hr, cast_succ i (by omega)]
      simp only [laws_toPeg.f, Option.bind_some]
      rw [if_pos (by omega), Int.toNat_natCast]
      rfl
    · rw [List.take_succ_eq_append_getElem (by simp; omega), List.take_succ_eq_append_getElem (by simp; omega), List.take_set_of_le (Nat.le_refl _), ht]
      simp
theorem toPegS_ev (l : List S97) (hl : l.length ≤ 2000000) : Ev (fun k => laws_toPegS.f k l) (l.map to26) := by
  refine Ev.congr (f := fun k => laws_toPegS.l0 k l (List.replicate l.length z26) ((0 : Nat) : Int)) (fun k => ?_) (toPegS_loop l hl l.length 0 _ (by omega) (by omega) (by simp) (by simp))
  unfold laws_toPegS.f
  rw [if_pos (by omega), if_pos (by omega), Int.toNat_natCast]
  rfl
theorem eqPegS_ev (l : List S26) (hl : l.length ≤ 2000000) : Ev (fun k => laws_eqPegS.f k l l) true := by
  have key : ∀ d i : Nat, l.length - i = d → i ≤ l.length → Ev (fun k => laws_eqPegS.l0 k l l (i : Int)) true := by
    intro d
    induction d with
    | zero =>
      intro i hd hi
      refine Ev.step (f := fun _ => some true) (fun k => ?_) (Ev.now _)
      simp only [laws_eqPegS.l0]
      rw [if_neg (by omega)]
    | succ d ih =>
      intro i hd hi
      refine Ev.step (fun k => ?_) (ih (i + 1) (by omega) (by omega))
      simp only [laws_eqPegS.l0]
      rw [if_pos (by omega), if_pos (by omega), if_pos (by omega), cast_succ i (by omega)]
      simp [laws_eqPeg.f]
  refine Ev.congr (fun k => ?_) (key l.length 0 (by omega) (by omega))
  unfold laws_eqPegS.f
  rw [if_pos rfl]
  rfl
end Go.Proofs.Ytphpdfcblchpnaa.D
