/- Parts of the proof: printed texts, words and own texts, cut to what is used. -/
import Derived.Test.YtphpdfcblchpnaaDoorZ2
namespace Go.Proofs.YtphpdfcblchpnaaDoor.D
open Go.RowKit Go.Proofs.YtphpdfcblchpnaaDoor.Q Go.Proofs.YtphpdfcblchpnaaDoorW.PrintWords Go.Proofs.YtphpdfcblchpnaaDoorW.PrintLast Go.Proofs.YtphpdfcblchpnaaDoorW.PrintMore
open Go.Proofs.YtphpdfcblchpnaaDoor.M
theorem meet_ev {a b c d : Pg} (ha : B3 a) (hb : B3 b) (hc : B3 c) (hd : B3 d) : Ev (fun k => impl_meet.f k a.1 a.2 b.1 b.2 c.1 c.2 d.1 d.2) (dec (meets a b c d)) :=
  ⟨1, fun k hk => by
    obtain ⟨m, rfl⟩ : ∃ m, k = m + 1 := ⟨k - 1, by omega⟩
    rw [← decide_dec]
    exact meet_eq m ha hb hc hd⟩
def Peg3 (l : List Pg) : Prop := ∀ p ∈ l, isPeg p
theorem Peg3.b3 {l : List Pg} (h : Peg3 l) (h0 : 0 < l.length) (i : Nat) : B3 (at' l i) := by
  have hm : i % l.length < l.length := Nat.mod_lt _ h0
  rw [← at'_mod, at'_of _ _ hm]
  exact B3_of_peg (h _ (List.getElem_mem hm))
def okP (l : List Pg) (i k : Nat) : Prop := (k + 1 = i ∨ (i + 1 = l.length ∧ k = 0)) ∨ ¬ meets (at' l k) (at' l (k + 1)) (at' l i) (at' l (i + 1))
def okI (l : List Pg) (i : Nat) : Prop := (∀ j, j < i → at' l j ≠ at' l i) ∧ turn (at' l (i + l.length - 1)) (at' l i) (at' l (i + 1)) ≠ 0 ∧ ∀ k, k < i → okP l i k
theorem isPolygon_l1 (l : List S33) (h2 : 2 ≤ l.length) (hl : l.length ≤ 1000) (hp : Peg3 (pgs l)) (i : Nat) (hi : i < l.length) (r : Bool)
    (hR : Ev (fun k => impl_IsPolygon.l0 k l (l.length : Int) l (l.length : Int) ((i + 1 : Nat) : Int)) r) :
    ∀ m, m ≤ i → Ev (fun k => impl_IsPolygon.l1 k l (l.length : Int) (i : Int) l (l.length : Int) (i : Int) (i : Int) (m : Int) (at' (pgs l) i).1 (at' (pgs l) i).2) (dec (∀ k, m ≤ k → k < i → okP (pgs l) i k) && r) := by
  have hn : 0 < (pgs l).length := by rw [pgs_length]; omega
  refine loop_ev ?_ ?_
  · have e : dec (∀ k, i ≤ k → k < i → okP (pgs l) i k) = true := dec_true (fun k h1 h2 => by omega)
    rw [e, Bool.true_and]
    refine Ev.step (fun k => ?_) hR
    simp only [impl_IsPolygon.l1]
    rw [if_neg (by omega), cast_succ i (by omega)]
  · intro m hm ih
    have next : ∀ k, m ≤ k → k < i → k = m ∨ m + 1 ≤ k := fun k h1 h2 => by omega
    -- the way that leaves the pair out, or finds nothing
    have go_on (hok : okP (pgs l) i m) : (dec (∀ k, m ≤ k → k < i → okP (pgs l) i k) && r) = (dec (∀ k, m + 1 ≤ k → k < i → okP (pgs l) i k) && r) := by
      congr 1
      refine dec_congr ⟨fun h k h1 h2 => h k (by omega) h2, fun h k h1 h2 => ?_⟩
      rcases next k h1 h2 with rfl | h3
      · exact hok
      · exact h k h3 h2
    have cm : wrap64 ((m : Int) + 1) = ((m + 1 : Nat) : Int) := cast_succ m (by omega)
    have ci : wrap64 ((i : Int) + 1) = ((i + 1 : Nat) : Int) := cast_succ i (by omega)
    have j4t : (okP (pgs l) i m) → Ev (fun k => impl_IsPolygon.j4 k l (l.length : Int) (i : Int) (m : Int) l (l.length : Int) (i : Int) (i : Int) (m : Int) true (at' (pgs l) i).1 (at' (pgs l) i).2) (dec (∀ k, m ≤ k → k < i → okP (pgs l) i k) && r) := by
      intro hok
      rw [go_on hok]
      refine Ev.step (fun k => ?_) ih
      simp only [impl_IsPolygon.j4]
      rw [if_pos trivial, cm]
    have j4f : ¬ (m + 1 = i ∨ (i + 1 = (pgs l).length ∧ m = 0)) → Ev (fun k => impl_IsPolygon.j4 k l (l.length : Int) (i : Int) (m : Int) l (l.length : Int) (i : Int) (i : Int) (m : Int) false (at' (pgs l) i).1 (at' (pgs l) i).2) (dec (∀ k, m ≤ k → k < i → okP (pgs l) i k) && r) := by
      intro hnot
      refine Ev.step (f := fun k => (impl_meet.f k (at' (pgs l) m).1 (at' (pgs l) m).2 (at' (pgs l) (m + 1)).1 (at' (pgs l) (m + 1)).2 (at' (pgs l) i).1 (at' (pgs l) i).2 (at' (pgs l) (i + 1)).1 (at' (pgs l) (i + 1)).2).bind fun t => if t = true then some false else impl_IsPolygon.l1 k l (l.length : Int) (i : Int) l (l.length : Int) (i : Int) (i : Int) ((m + 1 : Nat) : Int) (at' (pgs l) i).1 (at' (pgs l) i).2) (fun k => ?_) ?_
      · simp only [impl_IsPolygon.j4, cm, ci]
        rw [if_neg (by simp), if_pos (by omega), if_pos (by omega), if_pos (by omega), if_pos (by omega), at_eq l (i + 1) (by omega) (by omega)]
        simp only [Option.bind_some]
        rw [rd_f0 l m (by omega), rd_f1 l m (by omega), rd_f0 l (m + 1) (by omega), rd_f1 l (m + 1) (by omega)]
      · refine Ev.bind (meet_ev (hp.b3 hn m) (hp.b3 hn _) (hp.b3 hn _) (hp.b3 hn _)) ?_
        by_cases hm2 : meets (at' (pgs l) m) (at' (pgs l) (m + 1)) (at' (pgs l) i) (at' (pgs l) (i + 1))
        · rw [dec_true hm2, dec_false (p := ∀ k, m ≤ k → k < i → okP (pgs l) i k)]
          · exact Ev.now _
          · intro h
            rcases h m (Nat.le_refl _) hm with h3 | h3
            · exact hnot h3
            · exact h3 hm2
        · rw [dec_false hm2, go_on (.inr hm2)]
          exact ih
    by_cases h1 : m + 1 = i
    · refine Ev.step (fun k => ?_) (j4t (.inl (.inl h1)))
      simp only [impl_IsPolygon.l1]
      rw [if_pos (by omega), cm, if_pos (by omega)]
    · by_cases h3 : i + 1 = l.length
      · by_cases h4 : m = 0
        · refine Ev.step (fun k => ?_) (j4t (.inl (.inr ⟨by rw [pgs_length]; exact h3, h4⟩)))
          simp only [impl_IsPolygon.l1]
          rw [if_pos (by omega), cm, if_neg (by omega), ci, if_pos (by omega), show ((m : Int) == 0) = true from by simp [h4]]
        · refine Ev.step (fun k => ?_) (j4f (by rintro (h | ⟨_, h⟩) <;> omega))
          simp only [impl_IsPolygon.l1]
          rw [if_pos (by omega), cm, if_neg (by omega), ci, if_pos (by omega), show ((m : Int) == 0) = false from by simp [h4]]
      · refine Ev.step (fun k => ?_) (j4f (by rw [pgs_length]; rintro (h | ⟨h, _⟩) <;> omega))
        simp only [impl_IsPolygon.l1]
        rw [if_pos (by omega), cm, if_neg (by omega), ci, if_neg (by omega)]
theorem mem_take_iff (l : List S33) (i : Nat) (hi : i < l.length) : at' (pgs l) i ∈ pgs (l.take i) ↔ ∃ j, j < i ∧ at' (pgs l) j = at' (pgs l) i := by
  rw [List.mem_iff_getElem]
  constructor
  · rintro ⟨j, hj, e⟩
    have hj' : j < i := by rw [pgs_length, List.length_take] at hj; omega
    refine ⟨j, hj', ?_⟩
    rw [at'_of _ j (by rw [pgs_length]; omega), ← e]
    simp [pgs]
  · rintro ⟨j, hj, e⟩
    refine ⟨j, by rw [pgs_length, List.length_take]; omega, ?_⟩
    rw [← e, at'_of _ j (by rw [pgs_length]; omega)]
    simp [pgs]
theorem isPolygon_l0 (l : List S33) (h2 : 2 ≤ l.length) (hl : l.length ≤ 1000) (hp : Peg3 (pgs l)) :
    ∀ i, i ≤ l.length → Ev (fun k => impl_IsPolygon.l0 k l (l.length : Int) l (l.length : Int) (i : Int)) (dec (∀ j, i ≤ j → j < l.length → okI (pgs l) j)) := by
  have hn : 0 < (pgs l).length := by rw [pgs_length]; omega
  refine loop_ev ?_ ?_
  · rw [dec_true (fun k h1 h2 => by omega)]
    refine Ev.step (f := fun _ => some true) (fun k => ?_) (Ev.now _)
    simp only [impl_IsPolygon.l0]
    rw [if_neg (by omega)]
  · intro i hi ih
    have ci : wrap64 ((i : Int) + 1) = ((i + 1 : Nat) : Int) := cast_succ i (by omega)
    have cp : wrap64 ((i : Int) - 1) = (i : Int) - 1 := w64 (by omega) (by omega)
    refine Ev.step (f := fun k => (impl_Peg_22.f k (l.take i) (at' (pgs l) i).1 (at' (pgs l) i).2).bind fun t => if t = true then impl_IsPolygon.j2 k l (l.length : Int) (i : Int) l (l.length : Int) (i : Int) true (at' (pgs l) i).1 (at' (pgs l) i).2 else impl_IsPolygon.j2 k l (l.length : Int) (i : Int) l (l.length : Int) (i : Int) (turn (at' (pgs l) (i + l.length - 1)) (at' (pgs l) i) (at' (pgs l) (i + 1)) == 0) (at' (pgs l) i).1 (at' (pgs l) i).2) (fun k => ?_) ?_
    · simp only [impl_IsPolygon.l0]
      rw [if_pos (by omega), if_pos (by omega), if_pos (by omega), if_pos (by omega), ci, cp, at_eq l (i + 1) (by omega) (by omega), at_pred l i h2 (by omega) (by omega), rd_f0 l i hi, rd_f1 l i hi]
      simp only [Option.bind_some, Int.toNat_natCast]
      rw [turn_eq (hp.b3 hn _) (hp.b3 hn _) (hp.b3 hn _)]
      rfl
    · refine Ev.bind (contains_ev (l.take i) (at' (pgs l) i) (by rw [List.length_take]; omega)) ?_
      have bad (h : ¬ okI (pgs l) i) : dec (∀ j, i ≤ j → j < l.length → okI (pgs l) j) = false := dec_false (fun hh => h (hh i (Nat.le_refl _) hi))
      have j2t (h : ¬ okI (pgs l) i) : Ev (fun k => impl_IsPolygon.j2 k l (l.length : Int) (i : Int) l (l.length : Int) (i : Int) true (at' (pgs l) i).1 (at' (pgs l) i).2) (dec (∀ j, i ≤ j → j < l.length → okI (pgs l) j)) := by
        rw [bad h]
        refine Ev.step (f := fun _ => some false) (fun k => ?_) (Ev.now _)
        simp only [impl_IsPolygon.j2]
        rw [if_pos trivial]
      by_cases hd : at' (pgs l) i ∈ pgs (l.take i)
      · rw [dec_true hd]
        refine j2t (fun h => ?_)
        obtain ⟨j, hj, e⟩ := (mem_take_iff l i hi).mp hd
        exact h.1 j hj e
      · rw [dec_false hd]
        have hd' : ∀ j, j < i → at' (pgs l) j ≠ at' (pgs l) i := fun j hj e => hd ((mem_take_iff l i hi).mpr ⟨j, hj, e⟩)
        show Ev (fun k => impl_IsPolygon.j2 k l (l.length : Int) (i : Int) l (l.length : Int) (i : Int) (turn (at' (pgs l) (i + l.length - 1)) (at' (pgs l) i) (at' (pgs l) (i + 1)) == 0) (at' (pgs l) i).1 (at' (pgs l) i).2) _
        by_cases ht : turn (at' (pgs l) (i + l.length - 1)) (at' (pgs l) i) (at' (pgs l) (i + 1)) = 0
        · rw [show (turn (at' (pgs l) (i + l.length - 1)) (at' (pgs l) i) (at' (pgs l) (i + 1)) == 0) = true from by rw [ht]; rfl]
          exact j2t (fun h => h.2.1 (by rw [pgs_length]; exact ht))
        · rw [show (turn (at' (pgs l) (i + l.length - 1)) (at' (pgs l) i) (at' (pgs l) (i + 1)) == 0) = false from by simp [ht]]
          have hl1 := isPolygon_l1 l h2 hl hp i hi _ ih 0 (Nat.zero_le _)
          have e : dec (∀ j, i ≤ j → j < l.length → okI (pgs l) j) = (dec (∀ k, 0 ≤ k → k < i → okP (pgs l) i k) && dec (∀ j, i + 1 ≤ j → j < l.length → okI (pgs l) j)) := by
            by_cases hk : ∀ k, 0 ≤ k → k < i → okP (pgs l) i k
            · rw [dec_true hk, Bool.true_and]
              refine dec_congr ⟨fun h j h1 h2 => h j (by omega) h2, fun h j h1 h2 => ?_⟩
              by_cases ej : j = i
              · subst ej
                exact ⟨hd', by rw [pgs_length]; exact ht, fun k hk2 => hk k (Nat.zero_le _) hk2⟩
              · exact h j (by omega) h2
            · rw [dec_false hk, Bool.false_and]
              exact bad (fun h => hk (fun k _ h2 => h.2.2 k h2))
          rw [e]
          refine Ev.step (fun k => ?_) hl1
          simp only [impl_IsPolygon.j2]
          rw [if_neg (by simp)]
          rfl
theorem okI_iff (l : List Pg) (h3 : 3 ≤ l.length) (h10 : l.length ≤ 10) (hp : Peg3 l) : (∀ i, 0 ≤ i → i < l.length → okI l i) ↔ Poly l := by
  have pred : ∀ i, i < l.length → turn (at' l (i + l.length - 1)) (at' l i) (at' l (i + 1)) = turn (at' l ((i + l.length - 1) % l.length)) (at' l ((i + l.length - 1) % l.length + 1)) (at' l ((i + l.length - 1) % l.length + 2)) := by
    intro i hi
    rw [at'_mod]
    have e1 : at' l ((i + l.length - 1) % l.length + 1) = at' l i := by
      rw [← at'_mod l ((i + l.length - 1) % l.length + 1), Nat.mod_add_mod, ← at'_mod l i]
      rw [show i + l.length - 1 + 1 = i + l.length from by omega, Nat.add_mod_right]
    have e2 : at' l ((i + l.length - 1) % l.length + 2) = at' l (i + 1) := by
      rw [← at'_mod l ((i + l.length - 1) % l.length + 2), Nat.mod_add_mod, ← at'_mod l (i + 1)]
      rw [show i + l.length - 1 + 2 = i + 1 + l.length from by omega, Nat.add_mod_right]
    rw [e1, e2]
  constructor
  · intro h
    refine ⟨h3, h10, hp, fun i j hj hi e => (h i (Nat.zero_le _) hi).1 j hj e.symm, fun i hi => ?_, fun i k hk hi ha => ?_⟩
    · have hi' : (i + 1) % l.length < l.length := Nat.mod_lt _ (by omega)
      have ht := (h ((i + 1) % l.length) (Nat.zero_le _) hi').2.1
      rw [pred _ hi'] at ht
      have e : ((i + 1) % l.length + l.length - 1) % l.length = i := by
        by_cases hw : i + 1 = l.length
        · rw [hw, Nat.mod_self, Nat.zero_add, Nat.mod_eq_of_lt (by omega)]
          omega
        · rw [Nat.mod_eq_of_lt (show i + 1 < l.length by omega), show i + 1 + l.length - 1 = i + l.length from by omega, Nat.add_mod_right, Nat.mod_eq_of_lt hi]
      rw [e] at ht
      exact ht
    · rcases (h i (Nat.zero_le _) hi).2.2 k (by omega) with h4 | h4
      · rcases h4 with h4 | h4
        · omega
        · exact absurd h4 ha
      · exact h4
  · intro h i _ hi
    refine ⟨fun j hj e => h.diff i j hj hi e.symm, ?_, fun k hk => ?_⟩
    · rw [pred i hi]
      exact h.turns _ (Nat.mod_lt _ (by omega))
    · by_cases h1 : k + 1 = i
      · exact .inl (.inl h1)
      · by_cases h4 : i + 1 = l.length ∧ k = 0
        · exact .inl (.inr h4)
        · exact .inr (h.apart i k (by omega) hi h4)
theorem isPolygon_ev (l : List S33) : Ev (fun k => impl_IsPolygon.f k l) (dec (Poly (pgs l))) := by
  have jt : ∀ x, Ev (fun k => impl_IsPolygon.j0 k l x true) false := fun x => Ev.step (f := fun _ => some false) (fun k => by simp only [impl_IsPolygon.j0]; rw [if_pos trivial]) (Ev.now _)
  by_cases hw : 3 ≤ l.length ∧ l.length ≤ 10
  · refine Ev.congr (f := fun k => (impl_arePegs.f k l).bind fun t => impl_IsPolygon.j0 k l (l.length : Int) (!t)) (fun k => ?_) ?_
    · unfold impl_IsPolygon.f
      rw [within_eq, decide_eq_true (by omega)]
      rfl
    · refine Ev.bind (arePegs_ev l (by omega)) ?_
      by_cases hp : Peg3 (pgs l)
      · rw [dec_true (show ∀ p ∈ pgs l, isPeg p from hp)]
        have h0 := isPolygon_l0 l (by omega) (by omega) hp 0 (Nat.zero_le _)
        have e := okI_iff (pgs l) (by rw [pgs_length]; omega) (by rw [pgs_length]; omega) hp
        rw [pgs_length] at e
        rw [dec_congr e] at h0
        refine Ev.step (fun k => ?_) h0
        show impl_IsPolygon.j0 (k + 1) l (l.length : Int) false = _
        simp only [impl_IsPolygon.j0]
        rw [if_neg (by simp)]
        rfl
      · rw [dec_false (p := ∀ p ∈ pgs l, isPeg p) hp, dec_false (p := Poly (pgs l)) (fun h => hp h.pegs)]
        exact jt _
  · refine Ev.congr (f := fun k => impl_IsPolygon.j0 k l (l.length : Int) true) (fun k => ?_) ?_
    · unfold impl_IsPolygon.f
      rw [within_eq, decide_eq_false (by omega)]
      rfl
    · rw [dec_false (p := Poly (pgs l)) (fun h => by have a := h.n3; have b := h.n10; rw [pgs_length] at a b; exact hw ⟨a, b⟩)]
      exact jt _
end Go.Proofs.YtphpdfcblchpnaaDoor.D
namespace Go.Proofs.YtphpdfcblchpnaaDoor.D
open Go.RowKit Go.Proofs.YtphpdfcblchpnaaDoor.Q Go.Proofs.YtphpdfcblchpnaaDoorW.PrintWords Go.Proofs.YtphpdfcblchpnaaDoorW.PrintLast Go.Proofs.YtphpdfcblchpnaaDoorW.PrintMore
open Go.Proofs.YtphpdfcblchpnaaDoor.M
theorem l1In_eq (n a b : Int) : spec_l1In.f n a b = some (decide (a ≤ n ∧ n ≤ b)) := by
  unfold spec_l1In.f
  by_cases h : n ≥ a
  · rw [if_pos h]
    simp [show a ≤ n from h]
  · rw [if_neg h]
    simp [show ¬ a ≤ n from h]
theorem pgIs_eq (x y : Int) : spec_pgIs.f x y = some (decide (isPeg (x, y))) := by
  unfold spec_pgIs.f
  simp only [l1In_eq, Option.bind_some, decide_eq_true_eq]
  by_cases h : isPeg (x, y)
  · rw [decide_eq_true h, if_pos ⟨h.1, h.2.1⟩, decide_eq_true ⟨h.2.2.1, h.2.2.2⟩]
  · rw [decide_eq_false h]
    by_cases h1 : -40 ≤ x ∧ x ≤ 40
    · rw [if_pos h1, decide_eq_false (fun h2 => h ⟨h1.1, h1.2, h2⟩)]
    · rw [if_neg h1]
theorem pgTurn_eq {a b c : Pg} (ha : B3 a) (hb : B3 b) (hc : B3 c) : spec_pgTurn.f a.1 a.2 b.1 b.2 c.1 c.2 = some (turn a b c) := by
  have h := tprod ha hb hc
  unfold B3 at ha hb hc
  unfold spec_pgTurn.f turn
  rw [w64 (x := b.1 - a.1) (by omega) (by omega), w64 (x := b.2 - a.2) (by omega) (by omega), w64 (x := c.1 - a.1) (by omega) (by omega), w64 (x := c.2 - a.2) (by omega) (by omega)]
  rw [w64 (x := (b.1 - a.1) * (c.2 - a.2)) (by omega) (by omega), w64 (x := (b.2 - a.2) * (c.1 - a.1)) (by omega) (by omega), w64 (by omega) (by omega)]
theorem pgOn_eq {a b p : Pg} (ha : B3 a) (hb : B3 b) (hp : B3 p) : spec_pgOn.f a.1 a.2 b.1 b.2 p.1 p.2 = some (decide (onSeg a b p)) := by
  unfold spec_pgOn.f
  rw [pgTurn_eq ha hb hp]
  simp only [Option.bind_some]
  unfold B3 at ha hb hp
  have h1 := mul_bd (x := a.1 - p.1) (y := b.1 - p.1) (A := 2000) (by omega) (by omega) (by omega) (by omega)
  have h2 := mul_bd (x := a.2 - p.2) (y := b.2 - p.2) (A := 2000) (by omega) (by omega) (by omega) (by omega)
  rw [w64 (x := a.1 - p.1) (by omega) (by omega), w64 (x := b.1 - p.1) (by omega) (by omega), w64 (x := a.2 - p.2) (by omega) (by omega), w64 (x := b.2 - p.2) (by omega) (by omega), w64 (by omega) (by omega), w64 (by omega) (by omega)]
  have e1 := between_iff a.1 b.1 p.1
  have e2 := between_iff a.2 b.2 p.2
  by_cases h : onSeg a b p
  · rw [decide_eq_true h, if_pos h.1, if_pos (e1.mpr ⟨h.2.1, h.2.2.1⟩), decide_eq_true (e2.mpr ⟨h.2.2.2.1, h.2.2.2.2⟩)]
  · rw [decide_eq_false h]
    by_cases h0 : turn a b p = 0
    · rw [if_pos h0]
      by_cases h3 : (a.1 - p.1) * (b.1 - p.1) ≤ 0
      · rw [if_pos h3, decide_eq_false (fun h4 => h ⟨h0, (e1.mp h3).1, (e1.mp h3).2, (e2.mp h4).1, (e2.mp h4).2⟩)]
      · rw [if_neg h3]
    · rw [if_neg h0]
theorem l1Sign_eq (x : Int) : spec_l1Sign.f x = some (sgn x) := by
  unfold spec_l1Sign.f sgn
  by_cases h : 0 < x
  · rw [if_pos h, if_pos h]
  · rw [if_neg (show ¬ x > 0 from h), if_neg h]
    by_cases h2 : x < 0
    · rw [if_pos h2, if_pos h2]
    · rw [if_neg h2, if_neg h2]
theorem pgMeet_eq (k : Nat) {a b c d : Pg} (ha : B3 a) (hb : B3 b) (hc : B3 c) (hd : B3 d) : spec_pgMeet.f (k + 1) a.1 a.2 b.1 b.2 c.1 c.2 d.1 d.2 = some (decide (meets a b c d)) := by
  have b1 := sgnmul_bd (turn a b c) (turn a b d)
  have b2 := sgnmul_bd (turn c d a) (turn c d b)
  have j0 : ∀ x : Bool, spec_pgMeet.j0 (k + 1) x a.1 a.2 b.1 b.2 c.1 c.2 d.1 d.2 = some (x || decide (cross4 a b c d)) := by
    intro x
    cases x
    · simp only [spec_pgMeet.j0, pgTurn_eq ha hb hc, pgTurn_eq ha hb hd, pgTurn_eq hc hd ha, pgTurn_eq hc hd hb, Option.bind_some, l1Sign_eq, Bool.false_or]
      rw [w64 (by omega) (by omega), w64 (by omega) (by omega), if_neg (by simp)]
      unfold cross4
      by_cases h : sgn (turn a b c) * sgn (turn a b d) < 0
      · rw [if_pos h]
        simp [h]
      · rw [if_neg h]
        simp [h]
    · simp only [spec_pgMeet.j0]
      rw [if_pos trivial]
      rfl
  unfold spec_pgMeet.f
  simp only [pgOn_eq ha hb hc, pgOn_eq ha hb hd, pgOn_eq hc hd ha, pgOn_eq hc hd hb, Option.bind_some, j0]
  unfold meets
  by_cases h1 : onSeg a b c <;> by_cases h2 : onSeg a b d <;> by_cases h3 : onSeg c d a <;> by_cases h4 : onSeg c d b <;> by_cases h5 : cross4 a b c d <;> simp [h1, h2, h3, h4, h5]
theorem pgMeet_ev {a b c d : Pg} (ha : B3 a) (hb : B3 b) (hc : B3 c) (hd : B3 d) : Ev (fun k => spec_pgMeet.f k a.1 a.2 b.1 b.2 c.1 c.2 d.1 d.2) (dec (meets a b c d)) :=
  ⟨1, fun k hk => by
    obtain ⟨m, rfl⟩ : ∃ m, k = m + 1 := ⟨k - 1, by omega⟩
    rw [← decide_dec]
    exact pgMeet_eq m ha hb hc hd⟩
theorem rdm0 (l : List S33) (i : Nat) (h : 0 < l.length) : (rd_T33 l ((i % l.length : Nat) : Int)).f0 = (at' (pgs l) i).1 := by
  rw [rd_f0 l _ (Nat.mod_lt _ h)]
  have := at'_mod (pgs l) i
  rw [pgs_length] at this
  rw [this]
theorem rdm1 (l : List S33) (i : Nat) (h : 0 < l.length) : (rd_T33 l ((i % l.length : Nat) : Int)).f1 = (at' (pgs l) i).2 := by
  rw [rd_f1 l _ (Nat.mod_lt _ h)]
  have := at'_mod (pgs l) i
  rw [pgs_length] at this
  rw [this]
theorem tmod_add (i j n : Nat) (h : i + j ≤ 1000000) : Int.tmod (wrap64 ((i : Int) + (j : Int))) (n : Int) = (((i + j) % n : Nat) : Int) := by
  rw [w64 (by omega) (by omega), ← Int.natCast_add, tmod_nat]
theorem pgGood_l3 (l : List S33) (h3 : 3 ≤ l.length) (hl : l.length ≤ 1000) (hp : Peg3 (pgs l)) (i : Nat) (hi : i < l.length) (r : Bool)
    (hR : Ev (fun k => spec_pgGood.l2 k l (l.length : Int) l (l.length : Int) ((i + 1 : Nat) : Int)) r) :
    ∀ m, m ≤ l.length → i + 2 ≤ m → Ev (fun k => spec_pgGood.l3 k l (l.length : Int) (i : Int) (m : Int) l (l.length : Int) (i : Int) (at' (pgs l) i).1 (at' (pgs l) i).2 (at' (pgs l) (i + 1)).1 (at' (pgs l) (i + 1)).2)
      (dec (∀ k, m ≤ k → k < l.length → k - i < l.length - 1 → ¬ meets (at' (pgs l) i) (at' (pgs l) (i + 1)) (at' (pgs l) k) (at' (pgs l) (k + 1))) && r) := by
  have hn : 0 < (pgs l).length := by rw [pgs_length]; omega
  have ci : wrap64 ((i : Int) + 1) = ((i + 1 : Nat) : Int) := cast_succ i (by omega)
  have stop : ∀ m, (∀ k, m ≤ k → k < l.length → ¬ k - i < l.length - 1) → Ev (fun k => spec_pgGood.j4 k l (l.length : Int) (i : Int) (m : Int) l (l.length : Int) (i : Int) false (at' (pgs l) i).1 (at' (pgs l) i).2 (at' (pgs l) (i + 1)).1 (at' (pgs l) (i + 1)).2)
      (dec (∀ k, m ≤ k → k < l.length → k - i < l.length - 1 → ¬ meets (at' (pgs l) i) (at' (pgs l) (i + 1)) (at' (pgs l) k) (at' (pgs l) (k + 1))) && r) := by
    intro m hm
    rw [dec_true (fun k h1 h2 h4 => absurd h4 (hm k h1 h2)), Bool.true_and]
    refine Ev.step (fun k => ?_) hR
    simp only [spec_pgGood.j4]
    rw [if_neg (by simp), ci]
  intro m hm hm2
  obtain ⟨d, hd⟩ : ∃ d, d = l.length - m := ⟨_, rfl⟩
  induction d generalizing m with
  | zero =>
    refine Ev.step (fun k => ?_) (stop m (fun k h1 h2 => by omega))
    simp only [spec_pgGood.l3]
    rw [if_neg (by omega)]
  | succ d ih =>
    have cm : wrap64 ((m : Int) + 1) = ((m + 1 : Nat) : Int) := cast_succ m (by omega)
    have w1 : wrap64 ((m : Int) - (i : Int)) = (m : Int) - (i : Int) := w64 (by omega) (by omega)
    have w2 : wrap64 ((l.length : Int) - 1) = (l.length : Int) - 1 := w64 (by omega) (by omega)
    by_cases hc : m - i < l.length - 1
    · refine Ev.step (f := fun k => spec_pgGood.j4 k l (l.length : Int) (i : Int) (m : Int) l (l.length : Int) (i : Int) true (at' (pgs l) i).1 (at' (pgs l) i).2 (at' (pgs l) (i + 1)).1 (at' (pgs l) (i + 1)).2) (fun k => ?_) ?_
      · simp only [spec_pgGood.l3]
        rw [if_pos (by omega), w1, w2, decide_eq_true (by omega)]
      · refine Ev.step (f := fun k => (spec_pgMeet.f k (at' (pgs l) i).1 (at' (pgs l) i).2 (at' (pgs l) (i + 1)).1 (at' (pgs l) (i + 1)).2 (at' (pgs l) m).1 (at' (pgs l) m).2 (at' (pgs l) (m + 1)).1 (at' (pgs l) (m + 1)).2).bind fun t => if t = true then some false else spec_pgGood.l3 k l (l.length : Int) (i : Int) ((m + 1 : Nat) : Int) l (l.length : Int) (i : Int) (at' (pgs l) i).1 (at' (pgs l) i).2 (at' (pgs l) (i + 1)).1 (at' (pgs l) (i + 1)).2) (fun k => ?_) ?_
        · simp only [spec_pgGood.j4]
          have te := tmod_add m 1 l.length (by omega)
          rw [show ((1 : Nat) : Int) = 1 from rfl] at te
          have hlt : (m + 1) % l.length < l.length := Nat.mod_lt _ (by omega)
          rw [if_pos trivial, if_pos (by omega), if_pos (by omega), if_neg (by omega), te, if_pos (by omega), if_pos (by omega), rd_f0 l m (by omega), rd_f1 l m (by omega), rdm0 l _ (by omega), rdm1 l _ (by omega), cm]
        · refine Ev.bind (pgMeet_ev (hp.b3 hn _) (hp.b3 hn _) (hp.b3 hn _) (hp.b3 hn _)) ?_
          by_cases hm3 : meets (at' (pgs l) i) (at' (pgs l) (i + 1)) (at' (pgs l) m) (at' (pgs l) (m + 1))
          · rw [dec_true hm3, dec_false (p := ∀ k, m ≤ k → k < l.length → k - i < l.length - 1 → ¬ meets (at' (pgs l) i) (at' (pgs l) (i + 1)) (at' (pgs l) k) (at' (pgs l) (k + 1))) (fun h => h m (Nat.le_refl _) (by omega) hc hm3)]
            exact Ev.now _
          · rw [dec_false hm3]
            have e : dec (∀ k, m ≤ k → k < l.length → k - i < l.length - 1 → ¬ meets (at' (pgs l) i) (at' (pgs l) (i + 1)) (at' (pgs l) k) (at' (pgs l) (k + 1))) = dec (∀ k, m + 1 ≤ k → k < l.length → k - i < l.length - 1 → ¬ meets (at' (pgs l) i) (at' (pgs l) (i + 1)) (at' (pgs l) k) (at' (pgs l) (k + 1))) := by
              refine dec_congr ⟨fun h k h1 => h k (by omega), fun h k h1 h2 h4 => ?_⟩
              by_cases ek : k = m
              · subst ek; exact hm3
              · exact h k (by omega) h2 h4
            rw [e]
            exact ih (m + 1) (by omega) (by omega) (by omega)
    · refine Ev.step (fun k => ?_) (stop m (fun k h1 h2 => by omega))
      simp only [spec_pgGood.l3]
      rw [if_pos (by omega), w1, w2, decide_eq_false (by omega)]
def okL (l : List Pg) (i : Nat) : Prop := turn (at' l i) (at' l (i + 1)) (at' l (i + 2)) ≠ 0 ∧ ∀ k, i + 2 ≤ k → k < l.length → k - i < l.length - 1 → ¬ meets (at' l i) (at' l (i + 1)) (at' l k) (at' l (k + 1))
theorem pgGood_l2 (l : List S33) (h3 : 3 ≤ l.length) (hl : l.length ≤ 1000) (hp : Peg3 (pgs l)) :
    ∀ i, i ≤ l.length → Ev (fun k => spec_pgGood.l2 k l (l.length : Int) l (l.length : Int) (i : Int)) (dec (∀ j, i ≤ j → j < l.length → okL (pgs l) j)) := by
  have hn : 0 < (pgs l).length := by rw [pgs_length]; omega
  refine loop_ev ?_ ?_
  · rw [dec_true (fun k h1 h2 => by omega)]
    refine Ev.step (f := fun _ => some true) (fun k => ?_) (Ev.now _)
    simp only [spec_pgGood.l2]
    rw [if_neg (by omega)]
  · intro i hi ih
    have te1 := tmod_add i 1 l.length (by omega)
    have te2 := tmod_add i 2 l.length (by omega)
    rw [show ((1 : Nat) : Int) = 1 from rfl] at te1
    rw [show ((2 : Nat) : Int) = 2 from rfl] at te2
    have hlt1 : (i + 1) % l.length < l.length := Nat.mod_lt _ (by omega)
    have hlt2 : (i + 2) % l.length < l.length := Nat.mod_lt _ (by omega)
    have w2 : wrap64 ((i : Int) + 2) = ((i + 2 : Nat) : Int) := by rw [w64 (by omega) (by omega)]; omega
    refine Ev.step (f := fun k => if turn (at' (pgs l) i) (at' (pgs l) (i + 1)) (at' (pgs l) (i + 2)) = 0 then some false else spec_pgGood.l3 k l (l.length : Int) (i : Int) ((i + 2 : Nat) : Int) l (l.length : Int) (i : Int) (at' (pgs l) i).1 (at' (pgs l) i).2 (at' (pgs l) (i + 1)).1 (at' (pgs l) (i + 1)).2) (fun k => ?_) ?_
    · simp only [spec_pgGood.l2]
      rw [if_pos (by omega), if_pos (by omega), if_pos (by omega), if_neg (by omega), te1, te2, if_pos (by omega), if_pos (by omega), if_pos (by omega), if_pos (by omega), rd_f0 l i hi, rd_f1 l i hi, rdm0 l _ (by omega), rdm1 l _ (by omega), rdm0 l _ (by omega), rdm1 l _ (by omega), pgTurn_eq (hp.b3 hn _) (hp.b3 hn _) (hp.b3 hn _), w2]
      rfl
    · by_cases ht : turn (at' (pgs l) i) (at' (pgs l) (i + 1)) (at' (pgs l) (i + 2)) = 0
      · simp only [if_pos ht]
        rw [dec_false (fun h => (h i (Nat.le_refl _) hi).1 ht)]
        exact Ev.now _
      · simp only [if_neg ht]
        by_cases hlast : i + 2 ≤ l.length
        · have h := pgGood_l3 l h3 hl hp i hi _ ih (i + 2) hlast (Nat.le_refl _)
          have e : dec (∀ j, i ≤ j → j < l.length → okL (pgs l) j) = (dec (∀ k, i + 2 ≤ k → k < l.length → k - i < l.length - 1 → ¬ meets (at' (pgs l) i) (at' (pgs l) (i + 1)) (at' (pgs l) k) (at' (pgs l) (k + 1))) && dec (∀ j, i + 1 ≤ j → j < l.length → okL (pgs l) j)) := by
            by_cases hk : ∀ k, i + 2 ≤ k → k < l.length → k - i < l.length - 1 → ¬ meets (at' (pgs l) i) (at' (pgs l) (i + 1)) (at' (pgs l) k) (at' (pgs l) (k + 1))
            · rw [dec_true hk, Bool.true_and]
              refine dec_congr ⟨fun h j h1 h2 => h j (by omega) h2, fun h j h1 h2 => ?_⟩
              by_cases ej : j = i
              · subst ej
                exact ⟨ht, by rw [pgs_length]; exact hk⟩
              · exact h j (by omega) h2
            · rw [dec_false hk, Bool.false_and]
              exact dec_false (fun h => hk (by have := (h i (Nat.le_refl _) hi).2; rw [pgs_length] at this; exact this))
          rw [e]
          exact h
        · -- the last line: nothing behind it
          have e : dec (∀ j, i ≤ j → j < l.length → okL (pgs l) j) = dec (∀ j, i + 1 ≤ j → j < l.length → okL (pgs l) j) := by
            refine dec_congr ⟨fun h j h1 h2 => h j (by omega) h2, fun h j h1 h2 => ?_⟩
            by_cases ej : j = i
            · subst ej
              exact ⟨ht, fun k h4 h5 _ => by rw [pgs_length] at h5; omega⟩
            · exact h j (by omega) h2
          rw [e]
          refine Ev.step (f := fun k => spec_pgGood.j4 k l (l.length : Int) (i : Int) ((i + 2 : Nat) : Int) l (l.length : Int) (i : Int) false (at' (pgs l) i).1 (at' (pgs l) i).2 (at' (pgs l) (i + 1)).1 (at' (pgs l) (i + 1)).2) (fun k => ?_) (Ev.step (fun k => ?_) ih)
          · simp only [spec_pgGood.l3]
            rw [if_neg (by omega)]
          · simp only [spec_pgGood.j4]
            rw [if_neg (by simp), cast_succ i (by omega)]
theorem pgGood_l1 (l : List S33) (hl : l.length ≤ 1000) (i : Nat) (hi : i < l.length) (r : Bool)
    (hR : Ev (fun k => spec_pgGood.l0 k l (l.length : Int) l (l.length : Int) ((i + 1 : Nat) : Int)) r) :
    ∀ m, m ≤ i → Ev (fun k => spec_pgGood.l1 k l (l.length : Int) l (l.length : Int) (i : Int) (l.take i) ((l.take i).length : Int) (m : Int) (at' (pgs l) i).1 (at' (pgs l) i).2) (dec (∀ j, m ≤ j → j < i → at' (pgs l) j ≠ at' (pgs l) i) && r) := by
  have hlen : (l.take i).length = i := by rw [List.length_take]; omega
  refine loop_ev ?_ ?_
  · rw [dec_true (fun k h1 h2 => by omega), Bool.true_and]
    refine Ev.step (fun k => ?_) hR
    simp only [spec_pgGood.l1]
    rw [if_neg (by omega), cast_succ i (by omega)]
  · intro m hm ih
    have e0 : at' (pgs (l.take i)) m = at' (pgs l) m := by
      rw [at'_of _ m (by rw [pgs_length]; omega), at'_of _ m (by rw [pgs_length]; omega)]
      simp [pgs]
    by_cases h : at' (pgs l) m = at' (pgs l) i
    · rw [dec_false (fun hh => hh m (Nat.le_refl _) hm h), Bool.false_and]
      refine Ev.step (f := fun _ => some false) (fun k => ?_) (Ev.now _)
      simp only [spec_pgGood.l1]
      rw [if_pos (by omega), if_pos (by omega), if_pos (by omega), rd_f0 _ m (by omega), rd_f1 _ m (by omega), e0, h, if_pos (by simp)]
    · have e : dec (∀ j, m ≤ j → j < i → at' (pgs l) j ≠ at' (pgs l) i) = dec (∀ j, m + 1 ≤ j → j < i → at' (pgs l) j ≠ at' (pgs l) i) := by
        refine dec_congr ⟨fun h j h1 => h j (by omega), fun h' j h1 h2 => ?_⟩
        by_cases ej : j = m
        · subst ej; exact h
        · exact h' j (by omega) h2
      rw [e]
      refine Ev.step (fun k => ?_) ih
      simp only [spec_pgGood.l1]
      rw [if_pos (by omega), if_pos (by omega), if_pos (by omega), rd_f0 _ m (by omega), rd_f1 _ m (by omega), e0, if_neg, cast_succ m (by omega)]
      intro hh
      simp only [Bool.and_eq_true, beq_iff_eq] at hh
      exact h (Prod.ext hh.1.symm hh.2.symm)
def okA (l : List Pg) (i : Nat) : Prop := isPeg (at' l i) ∧ ∀ j, j < i → at' l j ≠ at' l i
theorem pgGood_l0 (l : List S33) (hl : l.length ≤ 1000) (r : Bool) (hR : (∀ i, i < l.length → okA (pgs l) i) → Ev (fun k => spec_pgGood.l2 k l (l.length : Int) l (l.length : Int) 0) r) :
    ∀ i, i ≤ l.length → (∀ j, j < i → okA (pgs l) j) → Ev (fun k => spec_pgGood.l0 k l (l.length : Int) l (l.length : Int) (i : Int)) (dec (∀ j, i ≤ j → j < l.length → okA (pgs l) j) && r) := by
  intro i hi
  obtain ⟨d, hd⟩ : ∃ d, d = l.length - i := ⟨_, rfl⟩
  induction d generalizing i with
  | zero =>
    intro hall
    have : i = l.length := by omega
    subst this
    rw [dec_true (fun k h1 h2 => by omega), Bool.true_and]
    refine Ev.step (fun k => ?_) (hR hall)
    simp only [spec_pgGood.l0]
    rw [if_neg (by omega)]
  | succ d ih =>
    intro hall
    have hi' : i < l.length := by omega
    by_cases hp : isPeg (at' (pgs l) i)
    · -- the others before it
      have key : Ev (fun k => spec_pgGood.l1 k l (l.length : Int) l (l.length : Int) (i : Int) (l.take i) ((l.take i).length : Int) 0 (at' (pgs l) i).1 (at' (pgs l) i).2) (dec (∀ j, i ≤ j → j < l.length → okA (pgs l) j) && r) := by
        by_cases hdiff : ∀ j, j < i → at' (pgs l) j ≠ at' (pgs l) i
        · have h1 := pgGood_l1 l hl i hi' _ (ih (i + 1) (by omega) (by omega) (fun j hj => by
            by_cases ej : j = i
            · subst ej; exact ⟨hp, hdiff⟩
            · exact hall j (by omega))) 0 (Nat.zero_le _)
          rw [dec_true (fun j _ h2 => hdiff j h2), Bool.true_and] at h1
          have e : dec (∀ j, i ≤ j → j < l.length → okA (pgs l) j) = dec (∀ j, i + 1 ≤ j → j < l.length → okA (pgs l) j) := by
            refine dec_congr ⟨fun h j h1 => h j (by omega), fun h j h1 h2 => ?_⟩
            by_cases ej : j = i
            · subst ej; exact ⟨hp, hdiff⟩
            · exact h j (by omega) h2
          rw [e]
          exact h1
        · -- it stands there already: the loop ends with false, whatever comes behind
          have lp : ∀ m, m ≤ i → (∃ j, m ≤ j ∧ j < i ∧ at' (pgs l) j = at' (pgs l) i) → Ev (fun k => spec_pgGood.l1 k l (l.length : Int) l (l.length : Int) (i : Int) (l.take i) ((l.take i).length : Int) (m : Int) (at' (pgs l) i).1 (at' (pgs l) i).2) false := by
            have hlen : (l.take i).length = i := by rw [List.length_take]; omega
            intro m hm
            obtain ⟨d2, hd2⟩ : ∃ d, d = i - m := ⟨_, rfl⟩
            induction d2 generalizing m with
            | zero => rintro ⟨j, h1, h2, _⟩; omega
            | succ d2 ih2 =>
              rintro ⟨j, h1, h2, h4⟩
              have e0 : at' (pgs (l.take i)) m = at' (pgs l) m := by
                rw [at'_of _ m (by rw [pgs_length]; omega), at'_of _ m (by rw [pgs_length]; omega)]
                simp [pgs]
              by_cases h : at' (pgs l) m = at' (pgs l) i
              · refine Ev.step (f := fun _ => some false) (fun k => ?_) (Ev.now _)
                simp only [spec_pgGood.l1]
                rw [if_pos (by omega), if_pos (by omega), if_pos (by omega), rd_f0 _ m (by omega), rd_f1 _ m (by omega), e0, h, if_pos (by simp)]
              · refine Ev.step (fun k => ?_) (ih2 (m + 1) (by omega) (by omega) ⟨j, by
                  by_cases ej : j = m
                  · subst ej; exact absurd h4 h
                  · omega, h2, h4⟩)
                simp only [spec_pgGood.l1]
                rw [if_pos (by omega), if_pos (by omega), if_pos (by omega), rd_f0 _ m (by omega), rd_f1 _ m (by omega), e0, if_neg, cast_succ m (by omega)]
                intro hh
                simp only [Bool.and_eq_true, beq_iff_eq] at hh
                exact h (Prod.ext hh.1.symm hh.2.symm)
          have hex : ∃ j, 0 ≤ j ∧ j < i ∧ at' (pgs l) j = at' (pgs l) i := by
            false_or_by_contra
            rename_i hno
            exact hdiff (fun j hj e => hno ⟨j, Nat.zero_le _, hj, e⟩)
          rw [dec_false (fun h => hdiff (h i (Nat.le_refl _) hi').2), Bool.false_and]
          exact lp 0 (Nat.zero_le _) hex
      refine Ev.step (fun k => ?_) key
      simp only [spec_pgGood.l0, pgIs_eq, Option.bind_some]
      rw [if_pos (by omega), if_pos (by omega), if_pos (by omega), rd_pg l i hi', decide_eq_true hp, if_pos rfl, if_pos (by omega), rd_f0 l i hi', rd_f1 l i hi']
      rfl
    · rw [dec_false (fun h => hp (h i (Nat.le_refl _) hi').1), Bool.false_and]
      refine Ev.step (f := fun _ => some false) (fun k => ?_) (Ev.now _)
      simp only [spec_pgGood.l0, pgIs_eq, Option.bind_some]
      rw [if_pos (by omega), if_pos (by omega), if_pos (by omega), rd_pg l i hi', decide_eq_false hp, if_neg (by simp)]
theorem okA_peg3 {l : List Pg} (h : ∀ i, i < l.length → okA l i) : Peg3 l := by
  intro p hp
  obtain ⟨j, hj, rfl⟩ := List.mem_iff_getElem.mp hp
  have := (h j hj).1
  rwa [at'_of _ _ hj] at this
theorem okL_iff (l : List Pg) (h3 : 3 ≤ l.length) (h10 : l.length ≤ 10) : ((∀ i, i < l.length → okA l i) ∧ ∀ i, i < l.length → okL l i) ↔ Poly l := by
  constructor
  · rintro ⟨ha, hL⟩
    refine ⟨h3, h10, okA_peg3 ha, fun i j hj hi e => (ha i hi).2 j hj e.symm, fun i hi => (hL i hi).1, fun i k hk hi hnot => ?_⟩
    exact (hL k (by omega)).2 i (by omega) hi (by omega)
  · intro h
    refine ⟨fun i hi => ⟨?_, fun j hj e => h.diff i j hj hi e.symm⟩, fun i hi => ⟨h.turns i hi, fun k h1 h2 h4 => ?_⟩⟩
    · rw [at'_of _ _ hi]
      exact h.pegs _ (List.getElem_mem hi)
    · exact h.apart k i (by omega) h2 (by omega)
theorem pgGood_ev (l : List S33) : Ev (fun k => spec_pgGood.f k l) (dec (Poly (pgs l))) := by
  by_cases hw : 3 ≤ l.length ∧ l.length ≤ 10
  · refine Ev.congr (f := fun k => spec_pgGood.l0 k l (l.length : Int) l (l.length : Int) 0) (fun k => ?_) ?_
    · unfold spec_pgGood.f
      rw [l1In_eq, decide_eq_true (by omega)]
      rfl
    · have h0 := pgGood_l0 l (by omega) (dec (∀ j, 0 ≤ j → j < l.length → okL (pgs l) j)) (fun ha => by
        have hp : Peg3 (pgs l) := okA_peg3 (by rw [pgs_length]; exact ha)
        exact pgGood_l2 l (by omega) (by omega) hp 0 (Nat.zero_le _)) 0 (Nat.zero_le _) (fun j hj => by omega)
      have e := okL_iff (pgs l) (by rw [pgs_length]; omega) (by rw [pgs_length]; omega)
      rw [pgs_length] at e
      have e2 : (dec (∀ j, 0 ≤ j → j < l.length → okA (pgs l) j) && dec (∀ j, 0 ≤ j → j < l.length → okL (pgs l) j)) = dec (Poly (pgs l)) := by
        by_cases h1 : ∀ j, 0 ≤ j → j < l.length → okA (pgs l) j
        · by_cases h2 : ∀ j, 0 ≤ j → j < l.length → okL (pgs l) j
          · rw [dec_true h1, dec_true h2, dec_true (e.mp ⟨fun i hi => h1 i (Nat.zero_le _) hi, fun i hi => h2 i (Nat.zero_le _) hi⟩)]
            rfl
          · rw [dec_false h2, dec_false (p := Poly (pgs l)) (fun h => h2 (fun i _ hi => (e.mpr h).2 i hi)), Bool.and_false]
        · rw [dec_false h1, dec_false (p := Poly (pgs l)) (fun h => h1 (fun i _ hi => (e.mpr h).1 i hi)), Bool.false_and]
      rw [e2] at h0
      exact h0
  · refine Ev.congr (f := fun _ => some false) (fun k => ?_) ?_
    · unfold spec_pgGood.f
      rw [l1In_eq, decide_eq_false (by omega)]
      rfl
    · rw [dec_false (p := Poly (pgs l)) (fun h => by have a := h.n3; have b := h.n10; rw [pgs_length] at a b; exact hw ⟨a, b⟩)]
      exact Ev.now _
end Go.Proofs.YtphpdfcblchpnaaDoor.D
