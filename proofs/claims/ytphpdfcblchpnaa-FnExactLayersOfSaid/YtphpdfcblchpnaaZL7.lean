/- Parts of the proof: printed texts, words and own texts, cut to what is used. -/
import Derived.Test.YtphpdfcblchpnaaZL6
namespace Go.Proofs.Ytphpdfcblchpnaa.Q
open Go.RowKit Go.Proofs.YtphpdfcblchpnaaW.PrintWords Go.Proofs.YtphpdfcblchpnaaW.PrintLast Go.Proofs.YtphpdfcblchpnaaW.PrintMore
attribute [local go_sem] max2_int min2_int max_two min_two max_three min_three max_four min_four   -- for this text's walks alone
set_option linter.unusedVariables false
set_option linter.unusedSimpArgs false
mutual
def impl_chain.l0 : Nat → List (S26) → List (S26) → Int → Int → Option ((List (S26)))
 | 0, _, _, _, _ => none
 | k + 1, x3, x7, x8, x9 => if x9 < x8 then (if 0 ≤ x9 then (if x9 < (x7.length : Int) then (impl_chain.l1 k x3 x7 x8 x9 ((rd_T26 x7 x9).f0) ((rd_T26 x7 x9).f1)) else (none)) else (none)) else (some x3)
def impl_chain.l1 : Nat → List (S26) → List (S26) → Int → Int → Int → Int → Option ((List (S26)))
 | 0, _, _, _, _, _, _ => none
 | k + 1, x3, x7, x8, x9, x2326000, x2326001 => if (x3.length : Int) > 1 then (if 0 ≤ (wrap64 ((x3.length : Int) - 2)) then (if (wrap64 ((x3.length : Int) - 2)) < (x3.length : Int) then (if 0 ≤ (wrap64 ((x3.length : Int) - 1)) then (if (wrap64 ((x3.length : Int) - 1)) < (x3.length : Int) then ((impl_turn.f ((rd_T26 x3 (wrap64 ((x3.length : Int) - 2))).f0) ((rd_T26 x3 (wrap64 ((x3.length : Int) - 2))).f1) ((rd_T26 x3 (wrap64 ((x3.length : Int) - 1))).f0) ((rd_T26 x3 (wrap64 ((x3.length : Int) - 1))).f1) x2326000 x2326001).bind fun t2328 => (if t2328 ≤ 0 then (if (wrap64 ((x3.length : Int) - 1)) ≤ (x3.length : Int) then (impl_chain.l1 k (x3.take ((wrap64 ((x3.length : Int) - 1)) : Int).toNat) x7 x8 x9 x2326000 x2326001) else (none)) else (if x3.length < 8796093022208 then (impl_chain.l0 k (x3 ++ [(⟨x2326000, x2326001⟩ : S26)]) x7 x8 (wrap64 (x9 + 1))) else (none)))) else (none)) else (none)) else (none)) else (none)) else (if x3.length < 8796093022208 then (impl_chain.l0 k (x3 ++ [(⟨x2326000, x2326001⟩ : S26)]) x7 x8 (wrap64 (x9 + 1))) else (none))
end
def impl_chain.f (k : Nat) (l0 : List (S26)) : Option ((List (S26))) := impl_chain.l0 k (([] : List (S26))) l0 (l0.length : Int) 0
def impl_chain.T5 : Bool × List (List Nat × List Nat) := (true, [([], []), ([0], [0]), ([1], [1]), ([2], [2]), ([3], [3]), ([3], [3]), ([5, 3], [3, 5]), ([6, 3], [3, 6]), ([4, 7, 3], [3, 4, 7]), ([8, 3], [3, 8]), ([3], [3]), ([3], [3]), ([11, 3], [3, 11]), ([12, 3], [3, 12]), ([10, 13, 3], [3, 10, 13]), ([14, 3], [3, 14]), ([3], [3]), ([9, 15, 16, 3, 3], [3, 9, 15, 16]), ([17, 3], [3, 17]), ([3, 18], [3, 18])])
def impl_chain.B5 : List Nat := [0, 1, 3, 7, 15, 15, 47, 111, 255, 511, 15, 15, 2063, 6159, 15375, 31759, 15, 131071, 262143, 524287]
theorem impl_chain.tab5 : rtab .any (opsOf Try.f291 5) = impl_chain.T5 := by kernel_rfl
theorem impl_chain.bits5 : waitsOk impl_chain.T5.2 impl_chain.B5 = true := by kernel_rfl
set_option maxHeartbeats 8000000 in
set_option maxRecDepth 100000 in
theorem impl_chain.calls (k : Nat) (A0 : Option Addr) (c0 : Nat) (l0 : List (S26)) (r : List (S26)) (w : World) (hr0 : Kd.C k26 w A0 l0.length l0) (hc0 : l0.length ≤ c0) (h : impl_chain.f k l0 = some r) :
  Calls Try.prog 291 #[.slice A0 l0.length c0] w fun e w' => ∃ v0_ : Value, e = .returned (v0_) ∧ Kd.R k26 26 w' w.heap.size (fun _ => True) v0_ r ∧ Below w.heap.size w w' := by
 have hu26 := Try.underlying26
 have HR0 := Aside0.mk hr0
 have HC0 := Aside0.mk hc0
 clear hr0 hc0
 have HB := Aside0.mk (Below.refl w.heap.size w)
 have H : (impl_chain.l0 k (([] : List (S26))) l0 (l0.length : Int) 0) = some r := h
 clear h
 obtain ⟨y2321, hy2321⟩ : ∃ y_ : List (S26), y_ = (([] : List (S26))) := ⟨_, rfl⟩
 replace H : (impl_chain.l0 k y2321 l0 (l0.length : Int) 0) = some r := by first | (rw [hy2321]; with_reducible exact H) | (have H2_ := (Option.bind_some _ _).symm.trans H; rw [hy2321]; with_reducible exact H2_) | (have H2_ := (Option.bind_some _ _).symm.trans H; with_reducible exact H2_) | with_reducible exact H | (rw [hy2321]; exact H) | exact H
 have Ny2321 := Aside0.mk hy2321
 clear hy2321
 have H' := Aside0.mk H
 clear H
 go_enter Try.func291, Try.ntmps291
 go_wp2_with (first | ((with_reducible refine gate_dst (N := 6) rfl ?_); (try (refine gate_guard (by rfl) ?_; dsimp only)); refine Kd.R_lit k26 _ 26 ?hg (N := 6) ?hd (xs := ([] : List (S26))) (inner := []) (ok := fun _ => True) (okp := fun _ => True) ?hr ?hp (fun _ hk => hk) trivial (Below.refl _ _) (Nat.le_refl _) (by simp) ?_; (case hd => rfl); (case hg => rfl); (case hr => first | (go_simp; done) | (go_simp; rfl)); (case hp => exact (Reps.none _ _)); intro v2322 w2 ho3 hb hg_ hnew_; clear hg_ hnew_; (first | rw [← Ny2321.out] at ho3 | (simp only [Int.reduceToNat] at ho3; rw [← Ny2321.out] at ho3)); have n0_ := Aside0.mk (Kd.R_lower ho3 (below_size zb)); have n1_ := Aside0.mk (below_step zb hb); clear HB; have HO2323 := n0_; have HB := n1_; clear n0_ n1_; clear hb ho3))
 go_loopg [3, 9] k (fun kq v3 v9 w' => ∃ (x3_1 : List (S26)) (x9_1 : Int), v9 = .int .i64 x9_1 ∧ Aside0 (impl_chain.l0 kq x3_1 l0 (l0.length : Int) x9_1 = some r) ∧ Aside0 (kq ≤ k) ∧ Aside0 (Kd.R k26 26 w' w.heap.size (fun _ => True) v3 x3_1) ∧ Aside0 (Below w.heap.size w w'))
 case atStart => exact ⟨(y2321), (0), (by first | rfl | (simp; done) | (simp [*]; done)), H', ⟨Nat.le_refl _⟩, ⟨by (with_reducible repeat (first | apply Kd.R_alloc | apply Kd.R_drewN | apply Kd.R_drew)); exact HO2323.out⟩, ⟨zb⟩⟩
 case round =>
  clear H'
  try clear c2
  try clear p2
  obtain ⟨x3_1, x9_1, rfl, HA, HK1, HO_3, HB⟩ := hrel
  cases gk with
  | zero => exact absurd HA.out (by simp [impl_chain.l0])
  | succ k1 =>
   have H := HA.out
   clear HA
   simp only [impl_chain.l0] at H
   by_cases c4 : x9_1 < (l0.length : Int)
   ·rw [if_pos c4] at H
    have c4b0 : decide (x9_1 < (l0.length : Int)) = true := decide_eq_true c4
    clear c4
    by_cases c5 : 0 ≤ x9_1
    ·rw [if_pos c5] at H
     have c5b0 : decide (0 ≤ x9_1) = true := decide_eq_true c5
     clear c5
     by_cases c6 : x9_1 < (l0.length : Int)
     ·rw [if_pos c6] at H
      have c6b0 : decide (x9_1 < (l0.length : Int)) = true := decide_eq_true c6
      clear c6
      have H' := Aside0.mk H
      clear H
      have p2324 : 0 ≤ (x9_1 : Int) := of_decide_eq_true (by first | (with_reducible assumption) | assumption)
      have q2324 : x9_1 < (l0.length : Int) := of_decide_eq_true (by first | (with_reducible assumption) | assumption)
      obtain ⟨ad2324, e2324, hx2324_0, hx2324_1⟩ := at_T26 HR0.out x9_1 p2324 q2324
      cases e2324
      replace hx2324_0 := zc HB hx2324_0
      replace hx2324_1 := zc HB hx2324_1
      replace p2324 := eq_true p2324
      replace q2324 := eq_true q2324
      go_wp2_with (first | ((with_reducible refine gate_dst (N := 5) rfl ?_); (try (refine gate_guard (by rfl) ?_; dsimp only)); refine box_event ?hg (N := 5) ?hd (cs := #[.int .i64 0, .int .i64 0]) (t := 26) ?hr ?_; (case hd => rfl); (case hg => rfl); (case hr => first | (go_simp; done) | (go_simp; rfl)); intro gb2325 hg w7 hbox hb; have n0_ := Aside0.mk (Kd.R_below (Kd.R_elderB (by (with_reducible repeat (first | apply Kd.R_alloc | apply Kd.R_drewN | apply Kd.R_drew)); exact HO_3.out) gb2325 (Nat.le_of_eq hg.symm)) hb); have n1_ := Aside0.mk (below_step zb hb); have n2_ := Aside0.mk (hbox); have n3_ := Aside0.mk ((by rw [hg]; exact (below_size zb) : w.heap.size ≤ gb2325)); have n4_ := Aside0.mk ((by rw [hg]; exact (below_size zb) : w.heap.size ≤ gb2325)); clear HO_3; clear HB; have HO_3 := n0_; have HB := n1_; have BK2325 := n2_; have GW2325 := n3_; have GE2325 := n4_; clear n0_ n1_ n2_ n3_ n4_; clear hb hbox hg; have hcz8_0 : w7.cell? ⟨gb2325, 0, none⟩ = some (.int .i64 0) := (blk_cell BK2325.out 0).trans rfl; have hcz8_1 : w7.cell? ⟨gb2325, 1, none⟩ = some (.int .i64 0) := (blk_cell BK2325.out 1).trans rfl; have hfz8_0 := blk_frozen BK2325.out 0; have hfz8_1 := blk_frozen BK2325.out 1))
      go_loopg [3] k1 (fun kq v3 w' => ∃ (x3_2 : List (S26)), Aside0 (impl_chain.l1 kq x3_2 l0 (l0.length : Int) x9_1 ((rd_T26 l0 x9_1).f0) ((rd_T26 l0 x9_1).f1) = some r) ∧ Aside0 (kq ≤ k1) ∧ Aside0 (Kd.R k26 26 w' w.heap.size (fun k_ => k_ ≠ gb2325) v3 x3_2) ∧ Aside0 (w'.heap[gb2325]? = some (.cells #[.int .i64 ((rd_T26 l0 x9_1).f0), .int .i64 ((rd_T26 l0 x9_1).f1)] 26 (0, 0))) ∧ Aside0 (Below w.heap.size w w'))
      case atStart => exact ⟨(x3_1), H', ⟨Nat.le_refl _⟩, ⟨by (with_reducible repeat (first | apply Kd.R_alloc | apply Kd.R_drewN | apply Kd.R_drew)); exact Kd.R_mono (Kd.R_far (p := ⟨gb2325, 1, none⟩) (Kd.R_far (p := ⟨gb2325, 0, none⟩) (Kd.R_mono HO_3.out (fun k_ hk => (⟨hk, hk.2⟩ : _ ∧ k_ ≠ gb2325))) (fun _ hk => hk.2) (.int .i64 ((rd_T26 l0 x9_1).f0))) (fun _ hk => hk.2) (.int .i64 ((rd_T26 l0 x9_1).f1))) (fun _ hk => hk.1.2)⟩, ⟨by (with_reducible repeat (first | refine blk_drewN ?_ _ | refine blk_drew ?_ | refine blk_alloc ?_ _)); refine blk_put (cs := #[.int .i64 ((rd_T26 l0 x9_1).f0), .int .i64 0]) ?_ 1 _ rfl; (with_reducible repeat (first | refine blk_drewN ?_ _ | refine blk_drew ?_ | refine blk_alloc ?_ _)); refine blk_put (cs := #[.int .i64 0, .int .i64 0]) ?_ 0 _ rfl; (with_reducible repeat (first | refine blk_drewN ?_ _ | refine blk_drew ?_ | refine blk_alloc ?_ _)); exact BK2325.out⟩, ⟨zb⟩⟩
      case round =>
       clear H'
       try clear c2
       try clear p2
       try clear q2
       try clear hx2
       try clear c4
       try clear c4b0
       try clear c5
       try clear c5b0
       try clear c6
       try clear c6b0
       try clear hcz8_0
       try clear hcz8_1
       try clear hfz8_0
       try clear hfz8_1
       try clear hx2324_0
       try clear hx2324_1
       try clear p2
       try clear p2324
       try clear q2324
       obtain ⟨x3_2, HA, HK2, HO_3, BK2325, HB⟩ := hrel
       cases gk with
       | zero => exact absurd HA.out (by simp [impl_chain.l1])
       | succ k2 =>
        have H := HA.out
        clear HA
        simp only [impl_chain.l1] at H
        by_cases c9 : (x3_2.length : Int) > 1
        ·rw [if_pos c9] at H
         have c9b0 : decide (1 < (x3_2.length : Int)) = true := decide_eq_true c9
         have c9b1 : decide (1 < x3_2.length) = true := decide_eq_true (by omega)
         clear c9
         obtain ⟨ji10, hji10⟩ : ∃ j_ : Int, (wrap64 ((x3_2.length : Int) - 2)) = j_ := ⟨_, rfl⟩
         replace H : (if 0 ≤ (ji10) then (if (ji10) < (x3_2.length : Int) then (if 0 ≤ (wrap64 ((x3_2.length : Int) - 1)) then (if (wrap64 ((x3_2.length : Int) - 1)) < (x3_2.length : Int) then ((impl_turn.f ((rd_T26 x3_2 (ji10)).f0) ((rd_T26 x3_2 (ji10)).f1) ((rd_T26 x3_2 (wrap64 ((x3_2.length : Int) - 1))).f0) ((rd_T26 x3_2 (wrap64 ((x3_2.length : Int) - 1))).f1) ((rd_T26 l0 x9_1).f0) ((rd_T26 l0 x9_1).f1)).bind fun t2328 => (if t2328 ≤ 0 then (if (wrap64 ((x3_2.length : Int) - 1)) ≤ (x3_2.length : Int) then (impl_chain.l1 k2 (x3_2.take ((wrap64 ((x3_2.length : Int) - 1)) : Int).toNat) l0 (l0.length : Int) x9_1 ((rd_T26 l0 x9_1).f0) ((rd_T26 l0 x9_1).f1)) else (none)) else (if x3_2.length < 8796093022208 then (impl_chain.l0 k2 (x3_2 ++ [(⟨((rd_T26 l0 x9_1).f0), ((rd_T26 l0 x9_1).f1)⟩ : S26)]) l0 (l0.length : Int) (wrap64 (x9_1 + 1))) else (none)))) else (none)) else (none)) else (none)) else (none)) = some r := by first | (rw [hji10] at H; exact H) | (simp only [hji10] at H ⊢; exact H)
         have hji10w : (IntKind.i64.wrap ((x3_2.length : Int) - 2)) = ji10 := (i64_w _).trans hji10
         by_cases c11 : 0 ≤ (ji10)
         ·rw [if_pos c11] at H
          have c11b0 : decide (0 ≤ (ji10)) = true := decide_eq_true c11
          clear c11
          by_cases c12 : (ji10) < (x3_2.length : Int)
          ·rw [if_pos c12] at H
           have c12b0 : decide ((ji10) < (x3_2.length : Int)) = true := decide_eq_true c12
           clear c12
           obtain ⟨ji13, hji13⟩ : ∃ j_ : Int, (wrap64 ((x3_2.length : Int) - 1)) = j_ := ⟨_, rfl⟩
           replace H : (if 0 ≤ (ji13) then (if (ji13) < (x3_2.length : Int) then ((impl_turn.f ((rd_T26 x3_2 (ji10)).f0) ((rd_T26 x3_2 (ji10)).f1) ((rd_T26 x3_2 (ji13)).f0) ((rd_T26 x3_2 (ji13)).f1) ((rd_T26 l0 x9_1).f0) ((rd_T26 l0 x9_1).f1)).bind fun t2328 => (if t2328 ≤ 0 then (if (ji13) ≤ (x3_2.length : Int) then (impl_chain.l1 k2 (x3_2.take ((ji13) : Int).toNat) l0 (l0.length : Int) x9_1 ((rd_T26 l0 x9_1).f0) ((rd_T26 l0 x9_1).f1)) else (none)) else (if x3_2.length < 8796093022208 then (impl_chain.l0 k2 (x3_2 ++ [(⟨((rd_T26 l0 x9_1).f0), ((rd_T26 l0 x9_1).f1)⟩ : S26)]) l0 (l0.length : Int) (wrap64 (x9_1 + 1))) else (none)))) else (none)) else (none)) = some r := by first | (rw [hji13] at H; exact H) | (simp only [hji13] at H ⊢; exact H)
           have hji13w : (IntKind.i64.wrap ((x3_2.length : Int) - 1)) = ji13 := (i64_w _).trans hji13
           by_cases c14 : 0 ≤ (ji13)
           ·rw [if_pos c14] at H
            have c14b0 : decide (0 ≤ (ji13)) = true := decide_eq_true c14
            clear c14
            by_cases c15 : (ji13) < (x3_2.length : Int)
            ·rw [if_pos c15] at H
             have c15b0 : decide ((ji13) < (x3_2.length : Int)) = true := decide_eq_true c15
             clear c15
             replace H := Option.bind_eq_some_iff.mp H
             obtain ⟨t2328, A160, H⟩ := H
             replace H : (if t2328 ≤ 0 then (if (ji13) ≤ (x3_2.length : Int) then (impl_chain.l1 k2 (x3_2.take ((ji13) : Int).toNat) l0 (l0.length : Int) x9_1 ((rd_T26 l0 x9_1).f0) ((rd_T26 l0 x9_1).f1)) else (none)) else (if x3_2.length < 8796093022208 then (impl_chain.l0 k2 (x3_2 ++ [(⟨((rd_T26 l0 x9_1).f0), ((rd_T26 l0 x9_1).f1)⟩ : S26)]) l0 (l0.length : Int) (wrap64 (x9_1 + 1))) else (none))) = some r := H
             have A16 := Aside0.mk A160
             clear A160
             by_cases c17 : t2328 ≤ 0
             ·rw [if_pos c17] at H
              have c17b0 : decide (t2328 ≤ 0) = true := decide_eq_true c17
              clear c17
              by_cases c18 : (ji13) ≤ (x3_2.length : Int)
              ·rw [if_pos c18] at H
               have c18b0 := eq_true c18
               have c18b1 : decide ((ji13) ≤ (x3_2.length : Int)) = true := decide_eq_true c18
               clear c18
               obtain ⟨y2329, hy2329⟩ : ∃ y_ : List (S26), y_ = (x3_2.take ((ji13) : Int).toNat) := ⟨_, rfl⟩
               replace H : (impl_chain.l1 k2 y2329 l0 (l0.length : Int) x9_1 ((rd_T26 l0 x9_1).f0) ((rd_T26 l0 x9_1).f1)) = some r := by first | (rw [hy2329]; with_reducible exact H) | (have H2_ := (Option.bind_some _ _).symm.trans H; rw [hy2329]; with_reducible exact H2_) | (have H2_ := (Option.bind_some _ _).symm.trans H; with_reducible exact H2_) | with_reducible exact H | (rw [hy2329]; exact H) | exact H
               have Ny2329 := Aside0.mk hy2329
               clear hy2329
               have H' := Aside0.mk H
               clear H
               try go_wp2
               have n0_ := Aside0.mk (Kd.R_drew HO_3.out)
               have n1_ := Aside0.mk (blk_drew BK2325.out)
               have n2_ := Aside0.mk (below_drew1 HB.out)
               clear HO_3
               clear BK2325
               clear HB
               have HO_3 := n0_
               have BK2325 := n1_
               have HB := n2_
               clear n0_ n1_ n2_
               obtain ⟨Ao20, co20, eo20⟩ := Kd.R_slice HO_3.out
               (first | subst eo20 | (injection eo20 with f1_ f2_ f3_; have f4_ := f1_.symm; have f5_ := f3_.symm; clear f1_ f2_ f3_; subst f4_; subst f5_))
               have p2326 : 0 ≤ ((ji10) : Int) := of_decide_eq_true (by first | (with_reducible assumption) | assumption)
               have q2326 : (ji10) < (x3_2.length : Int) := of_decide_eq_true (by first | (with_reducible assumption) | assumption)
               obtain ⟨ad2326, e2326, hx2326_0, hx2326_1⟩ := at_T26 (Kd.R_reads' HO_3.out).2.2 (ji10) p2326 q2326
               cases e2326
               replace p2326 := eq_true p2326
               replace q2326 := eq_true q2326
               have p2327 : 0 ≤ ((ji13) : Int) := of_decide_eq_true (by first | (with_reducible assumption) | assumption)
               have q2327 : (ji13) < (x3_2.length : Int) := of_decide_eq_true (by first | (with_reducible assumption) | assumption)
               obtain ⟨ad2327, e2327, hx2327_0, hx2327_1⟩ := at_T26 (Kd.R_reads' HO_3.out).2.2 (ji13) p2327 q2327
               obtain rfl : ad2326 = ad2327 := (by injection e2327)
               replace p2327 := eq_true p2327
               replace q2327 := eq_true q2327
               refine start_ (n := 20) (S := fun w' => w'.cell? ⟨gb2325, 0, none⟩ = some (.int .i64 ((rd_T26 l0 x9_1).f0)) ∧ w'.cell? ⟨gb2325, 1, none⟩ = some (.int .i64 ((rd_T26 l0 x9_1).f1)) ∧ w'.cell? (ad2326.add (((ji10)).toNat * 2)) = some (.int .i64 ((rd_T26 x3_2 (ji10)).f0)) ∧ w'.cell? ⟨(ad2326.add (((ji10)).toNat * 2)).block, (ad2326.add (((ji10)).toNat * 2)).off + 1, none⟩ = some (.int .i64 ((rd_T26 x3_2 (ji10)).f1)) ∧ w'.cell? (ad2326.add (((ji13)).toNat * 2)) = some (.int .i64 ((rd_T26 x3_2 (ji13)).f0)) ∧ w'.cell? ⟨(ad2326.add (((ji13)).toNat * 2)).block, (ad2326.add (((ji13)).toNat * 2)).off + 1, none⟩ = some (.int .i64 ((rd_T26 x3_2 (ji13)).f1))) (ds := []) (zl 20 0) (by kernel_rfl) rfl rfl ⟨(blk_cell BK2325.out 0).trans rfl, (blk_cell BK2325.out 1).trans rfl, hx2326_0, hx2326_1, hx2327_0, hx2327_1⟩ (fun hHeld => ?_); refine with_tabW impl_chain.tab5 impl_chain.bits5 (fun HT_ HW_ => ?_)
               generalize wr.drew = w19 at HO_3 BK2325 HB hx2326_0 hx2326_1 hx2327_0 hx2327_1 hHeld ⊢
               refine zp 0 13 20 1 HT_ ?_
               refine zp 1 14 20 3 HT_ ?_
               refine zp 2 15 20 7 HT_ ?_
               refine zp 3 16 20 15 HT_ ?_
               refine zp 4 17 20 31 HT_ ?_
               refine zp 5 18 20 63 HT_ ?_
               refine zp 6 19 20 127 HT_ ?_
               refine zp 7 20 20 255 HT_ ?_
               refine zp 8 21 20 511 HT_ ?_
               refine zp 10 23 20 1535 HT_ ?_
               refine zp 11 24 20 3583 HT_ ?_
               refine zp 12 25 20 7679 HT_ ?_
               refine zp 13 26 20 15871 HT_ ?_
               refine zp 14 27 20 32255 HT_ ?_
               refine take_ (i := 9) (N := some 22) (v := ?_) (a' := ?_) (zl 20 32767) rfl rfl (take_ofW HT_.out HW_.out (by kernel_rfl)) (fun _ _ _ h => h) (Or.inl ⟨by rfl, ?_⟩) hHeld ?_ ?_
               rotate_left
               ·rintro w' ⟨s0, s1, s2, s3, s4, s5⟩
                go_simp
                with_reducible rfl
               rotate_left
               ·exact zs
               refine take_ (i := 15) (N := some 28) (v := ?_) (a' := ?_) (zl 20 65535) rfl rfl (take_ofW HT_.out HW_.out (by kernel_rfl)) (fun _ _ _ h => h) (Or.inl ⟨by rfl, ?_⟩) hHeld ?_ ?_
               rotate_left
               ·rintro w' ⟨s0, s1, s2, s3, s4, s5⟩
                go_simp
                with_reducible rfl
               rotate_left
               ·exact zs
               refine take_ (i := 16) (N := some 29) (v := ?_) (a' := ?_) (zl 20 131071) rfl rfl (take_ofW HT_.out HW_.out (by kernel_rfl)) (fun _ _ _ h => h) (Or.inl ⟨by rfl, ?_⟩) hHeld ?_ ?_
               rotate_left
               ·rintro w' ⟨s0, s1, s2, s3, s4, s5⟩
                go_simp
                with_reducible rfl
               rotate_left
               ·exact zs
               refine one_ (i := 17) (N := some 30) (zl 20 262143) rfl rfl (one_of HT_.out (by kernel_rfl)) (by decide) (fun K hK => ?_)
               refine goes_ Try.func173 (by kernel_rfl) rfl #[.agg #[.int .i64 ((rd_T26 x3_2 (ji10)).f0), .int .i64 ((rd_T26 x3_2 (ji10)).f1)], .agg #[.int .i64 ((rd_T26 x3_2 (ji13)).f0), .int .i64 ((rd_T26 x3_2 (ji13)).f1)], .agg #[.int .i64 ((rd_T26 l0 x9_1).f0), .int .i64 ((rd_T26 l0 x9_1).f1)]] (by rfl) rfl rfl (by (try simp only [List.map_toArray, List.map_cons, List.map_nil]); first | done | (simp only [hji10, hji13]; rfl) | rfl | (simp only [List.length_drop, List.length_take]; rfl)) ?_
               with_reducible refine (impl_turn.calls ((rd_T26 x3_2 (ji10)).f0) ((rd_T26 x3_2 (ji10)).f1) ((rd_T26 x3_2 (ji13)).f0) ((rd_T26 x3_2 (ji13)).f1) ((rd_T26 l0 x9_1).f0) ((rd_T26 l0 x9_1).f1) t2328 _ A16.out).mono ?_
               rintro e w21 ⟨rfl, hb⟩
               have HS2_ := (hb.cell (World.block_lt_of_cell? _ _ (hHeld.2.2.1))).trans (hHeld.2.2.1)
               have HS3_ := (hb.cell (World.block_lt_of_cell? _ _ (hHeld.2.2.2.1))).trans (hHeld.2.2.2.1)
               have HS4_ := (hb.cell (World.block_lt_of_cell? _ _ (hHeld.2.2.2.2.1))).trans (hHeld.2.2.2.2.1)
               have HS5_ := (hb.cell (World.block_lt_of_cell? _ _ (hHeld.2.2.2.2.2))).trans (hHeld.2.2.2.2.2)
               refine ⟨_, rfl, ?_⟩
               have n0_ := Aside0.mk (Kd.R_below (by (with_reducible repeat (first | apply Kd.R_alloc | apply Kd.R_drewN | apply Kd.R_drew)); exact HO_3.out) hb)
               have n1_ := Aside0.mk (blk_below (g := gb2325) (o := .cells #[.int .i64 ((rd_T26 l0 x9_1).f0), .int .i64 ((rd_T26 l0 x9_1).f1)] 26 (0, 0)) zk hb)
               have n2_ := Aside0.mk (below_step zb hb)
               clear HO_3
               clear BK2325
               clear HB
               have HO_3 := n0_
               have BK2325 := n1_
               have HB := n2_
               clear n0_ n1_ n2_
               (try clear hb)
               (try clear hb2)
               (try clear hk)
               (try clear hi)
               refine hK.out _ _ ⟨(blk_cell BK2325.out 0).trans rfl, (blk_cell BK2325.out 1).trans rfl, HS2_, HS3_, HS4_, HS5_⟩ (fun hHeld => ?_)
               clear hK K
               refine norm_ (a' := ?_) ?_ ?_
               rotate_left
               ·show Act.put _ (some 30) _ = _
                exact zs
               refine zp 18 31 20 524287 HT_ ?_
               refine zp 19 32 20 1048575 HT_ ?_
               refine done_ (done_of HT_.out (by kernel_rfl)) ?_
               have q22 : ((ji13) : Int) ≤ ((x3_2.length : Int) : Int) := of_decide_eq_true (by first | (with_reducible assumption) | assumption)
               obtain ⟨i022, hi022, _, hsz22, _⟩ := info_parts info26
               have hcut22 := cut_to (P := Try.prog) 24 26 .i64 Try.underlying24 hi022 (some ad2326) x3_2.length co20 (ji13) (of_decide_eq_true (by first | (with_reducible assumption) | assumption)) q22 (Kd.R_reads' HO_3.out).2.1
               have hr22 := Kd.R_take (m := ((ji13) : Int).toNat) HO_3.out (by omega)
               have hy22 : y2329.length = ((ji13) : Int).toNat := (by rw [Ny2329.out, List.length_take]; omega)
               rw [← Ny2329.out] at hr22
               rw [← hy22] at hr22 hcut22
               clear hy22 hi022 hsz22 HO_3
               have HO2331 := Aside0.mk hr22
               clear hr22
               replace q22 := eq_true q22
               try go_wp2
               go_roundg k2
               case measure => have := HK1.out; have := HK2.out; omega
               case rel => exact ⟨(y2329), H', ⟨by have := HK1.out; have := HK2.out; omega⟩, ⟨by (with_reducible repeat (first | apply Kd.R_alloc | apply Kd.R_drewN | apply Kd.R_drew)); exact HO2331.out⟩, ⟨zk⟩, ⟨zb⟩⟩
              ·rw [if_neg c18] at H
               exact absurd H (by simp)
             ·rw [if_neg c17] at H
              have c17b0 : decide (t2328 ≤ 0) = false := decide_eq_false c17
              clear c17
              by_cases c23 : x3_2.length < 8796093022208
              ·rw [if_pos c23] at H
               have LMc23 := Aside0.mk c23
               clear c23
               obtain ⟨y2332, hy2332⟩ : ∃ y_ : List (S26), y_ = (x3_2 ++ [(⟨((rd_T26 l0 x9_1).f0), ((rd_T26 l0 x9_1).f1)⟩ : S26)]) := ⟨_, rfl⟩
               replace H : (impl_chain.l0 k2 y2332 l0 (l0.length : Int) (wrap64 (x9_1 + 1))) = some r := by first | (rw [hy2332]; with_reducible exact H) | (have H2_ := (Option.bind_some _ _).symm.trans H; rw [hy2332]; with_reducible exact H2_) | (have H2_ := (Option.bind_some _ _).symm.trans H; with_reducible exact H2_) | with_reducible exact H | (rw [hy2332]; exact H) | exact H
               have Ny2332 := Aside0.mk hy2332
               clear hy2332
               have H' := Aside0.mk H
               clear H
               try go_wp2
               have n0_ := Aside0.mk (Kd.R_drew HO_3.out)
               have n1_ := Aside0.mk (blk_drew BK2325.out)
               have n2_ := Aside0.mk (below_drew1 HB.out)
               clear HO_3
               clear BK2325
               clear HB
               have HO_3 := n0_
               have BK2325 := n1_
               have HB := n2_
               clear n0_ n1_ n2_
               obtain ⟨Ao25, co25, eo25⟩ := Kd.R_slice HO_3.out
               (first | subst eo25 | (injection eo25 with f1_ f2_ f3_; have f4_ := f1_.symm; have f5_ := f3_.symm; clear f1_ f2_ f3_; subst f4_; subst f5_))
               have p2326 : 0 ≤ ((ji10) : Int) := of_decide_eq_true (by first | (with_reducible assumption) | assumption)
               have q2326 : (ji10) < (x3_2.length : Int) := of_decide_eq_true (by first | (with_reducible assumption) | assumption)
               obtain ⟨ad2326, e2326, hx2326_0, hx2326_1⟩ := at_T26 (Kd.R_reads' HO_3.out).2.2 (ji10) p2326 q2326
               cases e2326
               replace p2326 := eq_true p2326
               replace q2326 := eq_true q2326
               have p2327 : 0 ≤ ((ji13) : Int) := of_decide_eq_true (by first | (with_reducible assumption) | assumption)
               have q2327 : (ji13) < (x3_2.length : Int) := of_decide_eq_true (by first | (with_reducible assumption) | assumption)
               obtain ⟨ad2327, e2327, hx2327_0, hx2327_1⟩ := at_T26 (Kd.R_reads' HO_3.out).2.2 (ji13) p2327 q2327
               obtain rfl : ad2326 = ad2327 := (by injection e2327)
               replace p2327 := eq_true p2327
               replace q2327 := eq_true q2327
               refine start_ (n := 20) (S := fun w' => w'.cell? ⟨gb2325, 0, none⟩ = some (.int .i64 ((rd_T26 l0 x9_1).f0)) ∧ w'.cell? ⟨gb2325, 1, none⟩ = some (.int .i64 ((rd_T26 l0 x9_1).f1)) ∧ w'.cell? (ad2326.add (((ji10)).toNat * 2)) = some (.int .i64 ((rd_T26 x3_2 (ji10)).f0)) ∧ w'.cell? ⟨(ad2326.add (((ji10)).toNat * 2)).block, (ad2326.add (((ji10)).toNat * 2)).off + 1, none⟩ = some (.int .i64 ((rd_T26 x3_2 (ji10)).f1)) ∧ w'.cell? (ad2326.add (((ji13)).toNat * 2)) = some (.int .i64 ((rd_T26 x3_2 (ji13)).f0)) ∧ w'.cell? ⟨(ad2326.add (((ji13)).toNat * 2)).block, (ad2326.add (((ji13)).toNat * 2)).off + 1, none⟩ = some (.int .i64 ((rd_T26 x3_2 (ji13)).f1))) (ds := []) (zl 20 0) (by kernel_rfl) rfl rfl ⟨(blk_cell BK2325.out 0).trans rfl, (blk_cell BK2325.out 1).trans rfl, hx2326_0, hx2326_1, hx2327_0, hx2327_1⟩ (fun hHeld => ?_); refine with_tabW impl_chain.tab5 impl_chain.bits5 (fun HT_ HW_ => ?_)
               generalize wr.drew = w24 at HO_3 BK2325 HB hx2326_0 hx2326_1 hx2327_0 hx2327_1 hHeld ⊢
               refine zp 0 13 20 1 HT_ ?_
               refine zp 1 14 20 3 HT_ ?_
               refine zp 2 15 20 7 HT_ ?_
               refine zp 3 16 20 15 HT_ ?_
               refine zp 4 17 20 31 HT_ ?_
               refine zp 5 18 20 63 HT_ ?_
               refine zp 6 19 20 127 HT_ ?_
               refine zp 7 20 20 255 HT_ ?_
               refine zp 8 21 20 511 HT_ ?_
               refine zp 10 23 20 1535 HT_ ?_
               refine zp 11 24 20 3583 HT_ ?_
               refine zp 12 25 20 7679 HT_ ?_
               refine zp 13 26 20 15871 HT_ ?_
               refine zp 14 27 20 32255 HT_ ?_
               refine take_ (i := 9) (N := some 22) (v := ?_) (a' := ?_) (zl 20 32767) rfl rfl (take_ofW HT_.out HW_.out (by kernel_rfl)) (fun _ _ _ h => h) (Or.inl ⟨by rfl, ?_⟩) hHeld ?_ ?_
               rotate_left
               ·rintro w' ⟨s0, s1, s2, s3, s4, s5⟩
                go_simp
                with_reducible rfl
               rotate_left
               ·exact zs
               refine take_ (i := 15) (N := some 28) (v := ?_) (a' := ?_) (zl 20 65535) rfl rfl (take_ofW HT_.out HW_.out (by kernel_rfl)) (fun _ _ _ h => h) (Or.inl ⟨by rfl, ?_⟩) hHeld ?_ ?_
               rotate_left
               ·rintro w' ⟨s0, s1, s2, s3, s4, s5⟩
                go_simp
                with_reducible rfl
               rotate_left
               ·exact zs
               refine take_ (i := 16) (N := some 29) (v := ?_) (a' := ?_) (zl 20 131071) rfl rfl (take_ofW HT_.out HW_.out (by kernel_rfl)) (fun _ _ _ h => h) (Or.inl ⟨by rfl, ?_⟩) hHeld ?_ ?_
               rotate_left
               ·rintro w' ⟨s0, s1, s2, s3, s4, s5⟩
                go_simp
                with_reducible rfl
               rotate_left
               ·exact zs
               refine one_ (i := 17) (N := some 30) (zl 20 262143) rfl rfl (one_of HT_.out (by kernel_rfl)) (by decide) (fun K hK => ?_)
               refine goes_ Try.func173 (by kernel_rfl) rfl #[.agg #[.int .i64 ((rd_T26 x3_2 (ji10)).f0), .int .i64 ((rd_T26 x3_2 (ji10)).f1)], .agg #[.int .i64 ((rd_T26 x3_2 (ji13)).f0), .int .i64 ((rd_T26 x3_2 (ji13)).f1)], .agg #[.int .i64 ((rd_T26 l0 x9_1).f0), .int .i64 ((rd_T26 l0 x9_1).f1)]] (by rfl) rfl rfl (by (try simp only [List.map_toArray, List.map_cons, List.map_nil]); first | done | (simp only [hji10, hji13]; rfl) | rfl | (simp only [List.length_drop, List.length_take]; rfl)) ?_
               with_reducible refine (impl_turn.calls ((rd_T26 x3_2 (ji10)).f0) ((rd_T26 x3_2 (ji10)).f1) ((rd_T26 x3_2 (ji13)).f0) ((rd_T26 x3_2 (ji13)).f1) ((rd_T26 l0 x9_1).f0) ((rd_T26 l0 x9_1).f1) t2328 _ A16.out).mono ?_
               rintro e w26 ⟨rfl, hb⟩
               have HS2_ := (hb.cell (World.block_lt_of_cell? _ _ (hHeld.2.2.1))).trans (hHeld.2.2.1)
               have HS3_ := (hb.cell (World.block_lt_of_cell? _ _ (hHeld.2.2.2.1))).trans (hHeld.2.2.2.1)
               have HS4_ := (hb.cell (World.block_lt_of_cell? _ _ (hHeld.2.2.2.2.1))).trans (hHeld.2.2.2.2.1)
               have HS5_ := (hb.cell (World.block_lt_of_cell? _ _ (hHeld.2.2.2.2.2))).trans (hHeld.2.2.2.2.2)
               refine ⟨_, rfl, ?_⟩
               have n0_ := Aside0.mk (Kd.R_below (by (with_reducible repeat (first | apply Kd.R_alloc | apply Kd.R_drewN | apply Kd.R_drew)); exact HO_3.out) hb)
               have n1_ := Aside0.mk (blk_below (g := gb2325) (o := .cells #[.int .i64 ((rd_T26 l0 x9_1).f0), .int .i64 ((rd_T26 l0 x9_1).f1)] 26 (0, 0)) zk hb)
               have n2_ := Aside0.mk (below_step zb hb)
               clear HO_3
               clear BK2325
               clear HB
               have HO_3 := n0_
               have BK2325 := n1_
               have HB := n2_
               clear n0_ n1_ n2_
               (try clear hb)
               (try clear hb2)
               (try clear hk)
               (try clear hi)
               refine hK.out _ _ ⟨(blk_cell BK2325.out 0).trans rfl, (blk_cell BK2325.out 1).trans rfl, HS2_, HS3_, HS4_, HS5_⟩ (fun hHeld => ?_)
               clear hK K
               refine norm_ (a' := ?_) ?_ ?_
               rotate_left
               ·show Act.put _ (some 30) _ = _
                exact zs
               refine zp 18 31 20 524287 HT_ ?_
               refine zp 19 32 20 1048575 HT_ ?_
               refine done_ (done_of HT_.out (by kernel_rfl)) ?_
               have hcz27_0 : w26.cell? ⟨gb2325, 0, none⟩ = some (.int .i64 ((rd_T26 l0 x9_1).f0)) := (blk_cell BK2325.out 0).trans rfl
               have hcz27_1 : w26.cell? ⟨gb2325, 1, none⟩ = some (.int .i64 ((rd_T26 l0 x9_1).f1)) := (blk_cell BK2325.out 1).trans rfl
               have hfz27_0 := blk_frozen BK2325.out 0
               have hfz27_1 := blk_frozen BK2325.out 1
               try go_wp2_with (first | ((with_reducible refine gate_builtin (b := .append) (xs := #[.tmp 38, .tmp 40]) rfl ?_); (try (refine gate_guard (by rfl) ?_; dsimp only)); at_builtin; refine Kd.R_append k26 (w0 := w) w.heap.size rfl (.tmp 38) (.tmp 40) 24 26 (.agg #[(.int .i64 0), (.int .i64 0)]) 16 rfl Try.underlying24 info26 rfl (by decide) (by omega) (.slice (some ad2326) x3_2.length co25) x3_2 (⟨((rd_T26 l0 x9_1).f0), ((rd_T26 l0 x9_1).f1)⟩ : S26) [.int .i64 ((rd_T26 l0 x9_1).f0), .int .i64 ((rd_T26 l0 x9_1).f1)] (fun k_ => k_ ≠ gb2325) (fun _ => False) rfl rfl ?aP (fun _ hk => hk.elim) ?aF ?aO ?aB ?aS ?aL ?_; (case aP => exact k26_mkM _ _ _ (⟨((rd_T26 l0 x9_1).f0), ((rd_T26 l0 x9_1).f1)⟩ : S26)); (case aB => exact zb); (case aF => exact (fun k_ hk => Kd.freshB (g := gb2325) (o := .cells #[.int .i64 ((rd_T26 l0 x9_1).f0), .int .i64 ((rd_T26 l0 x9_1).f1)] 26 (0, 0)) zk k_ hk)); (case aO => exact (by (with_reducible repeat (first | apply Kd.R_alloc | apply Kd.R_drewN | apply Kd.R_drew)); exact HO_3.out)); (case aS => exact (below_size zb)); (case aL => have := LMc23.out; omega); intro v2333 w28 ho hb hg hat; rw [← Ny2332.out] at ho; have n0_ := Aside0.mk (blk_grown (g := gb2325) (o := .cells #[.int .i64 ((rd_T26 l0 x9_1).f0), .int .i64 ((rd_T26 l0 x9_1).f1)] 26 (0, 0)) zk hg (Kd.R_away HO_3.out (fun _ hk => hk))); have n1_ := Aside0.mk (hb); have n2_ := Aside0.mk (ho); clear BK2325; clear HB; clear HO_3; have BK2325 := n0_; have HB := n1_; have HO2334 := n2_; clear n0_ n1_ n2_; clear ho hb hg hat))
               go_roundg k2
               case measure => have := HK1.out; have := HK2.out; omega
               case rel => exact ⟨(y2332), (wrap64 (x9_1 + 1)), (by first | rfl | (simp; done) | (simp [*]; done)), H', ⟨by have := HK1.out; have := HK2.out; omega⟩, ⟨by (with_reducible repeat (first | apply Kd.R_alloc | apply Kd.R_drewN | apply Kd.R_drew)); exact Kd.R_mono HO2334.out (fun _ hk => trivial)⟩, ⟨zb⟩⟩
              ·rw [if_neg c23] at H
               exact absurd H (by simp)
            ·rw [if_neg c15] at H
             exact absurd H (by simp)
           ·rw [if_neg c14] at H
            exact absurd H (by simp)
          ·rw [if_neg c12] at H
           exact absurd H (by simp)
         ·rw [if_neg c11] at H
          exact absurd H (by simp)
        ·rw [if_neg c9] at H
         have c9b0 : decide (1 < (x3_2.length : Int)) = false := decide_eq_false c9
         have c9b1 : decide (1 < x3_2.length) = false := decide_eq_false (by omega)
         clear c9
         by_cases c29 : x3_2.length < 8796093022208
         ·rw [if_pos c29] at H
          have LMc29 := Aside0.mk c29
          clear c29
          obtain ⟨y2335, hy2335⟩ : ∃ y_ : List (S26), y_ = (x3_2 ++ [(⟨((rd_T26 l0 x9_1).f0), ((rd_T26 l0 x9_1).f1)⟩ : S26)]) := ⟨_, rfl⟩
          replace H : (impl_chain.l0 k2 y2335 l0 (l0.length : Int) (wrap64 (x9_1 + 1))) = some r := by first | (rw [hy2335]; with_reducible exact H) | (have H2_ := (Option.bind_some _ _).symm.trans H; rw [hy2335]; with_reducible exact H2_) | (have H2_ := (Option.bind_some _ _).symm.trans H; with_reducible exact H2_) | with_reducible exact H | (rw [hy2335]; exact H) | exact H
          have Ny2335 := Aside0.mk hy2335
          clear hy2335
          have H' := Aside0.mk H
          clear H
          try go_wp2
          have n0_ := Aside0.mk (Kd.R_drew HO_3.out)
          have n1_ := Aside0.mk (blk_drew BK2325.out)
          have n2_ := Aside0.mk (below_drew1 HB.out)
          clear HO_3
          clear BK2325
          clear HB
          have HO_3 := n0_
          have BK2325 := n1_
          have HB := n2_
          clear n0_ n1_ n2_
          obtain ⟨Ao31, co31, eo31⟩ := Kd.R_slice HO_3.out
          (first | subst eo31 | (injection eo31 with f1_ f2_ f3_; have f4_ := f1_.symm; have f5_ := f3_.symm; clear f1_ f2_ f3_; subst f4_; subst f5_))
          refine start_ (n := 20) (S := fun w' => True) (ds := []) (zl 20 0) (by kernel_rfl) rfl rfl trivial (fun hHeld => ?_); refine with_tabW impl_chain.tab5 impl_chain.bits5 (fun HT_ HW_ => ?_)
          generalize wr.drew = w30 at HO_3 BK2325 HB hHeld ⊢
          refine zp 0 13 20 1 HT_ ?_
          refine zp 1 14 20 3 HT_ ?_
          refine zp 2 15 20 7 HT_ ?_
          refine zp 3 16 20 15 HT_ ?_
          refine pure_ (i := 4) (N := some 17) (v := undef) (a' := ?_) (zl 20 31) rfl rfl (any_of HT_.out (by kernel_rfl)) (fun _ _ _ h => h) (Or.inr ⟨by rfl, rfl⟩) ?_ ?_
          rotate_left
          ·exact zs
          refine pure_ (i := 5) (N := some 18) (v := undef) (a' := ?_) (zl 20 63) rfl rfl (any_of HT_.out (by kernel_rfl)) (fun _ _ _ h => h) (Or.inr ⟨by rfl, rfl⟩) ?_ ?_
          rotate_left
          ·exact zs
          refine pure_ (i := 6) (N := some 19) (v := undef) (a' := ?_) (zl 20 127) rfl rfl (any_of HT_.out (by kernel_rfl)) (fun _ _ _ h => h) (Or.inr ⟨by rfl, rfl⟩) ?_ ?_
          rotate_left
          ·exact zs
          refine pure_ (i := 7) (N := some 20) (v := undef) (a' := ?_) (zl 20 255) rfl rfl (any_of HT_.out (by kernel_rfl)) (fun _ _ _ h => h) (Or.inr ⟨by rfl, rfl⟩) ?_ ?_
          rotate_left
          ·exact zs
          refine pure_ (i := 8) (N := some 21) (v := undef) (a' := ?_) (zl 20 511) rfl rfl (any_of HT_.out (by kernel_rfl)) (fun _ _ _ h => h) (Or.inr ⟨by rfl, rfl⟩) ?_ ?_
          rotate_left
          ·exact zs
          refine pure_ (i := 9) (N := some 22) (v := undef) (a' := ?_) (zl 20 1023) rfl rfl (any_of HT_.out (by kernel_rfl)) (fun _ _ _ h => h) (Or.inr ⟨by rfl, rfl⟩) ?_ ?_
          rotate_left
          ·exact zs
          refine pure_ (i := 10) (N := some 23) (v := undef) (a' := ?_) (zl 20 2047) rfl rfl (any_of HT_.out (by kernel_rfl)) (fun _ _ _ h => h) (Or.inr ⟨by rfl, rfl⟩) ?_ ?_
          rotate_left
          ·exact zs
          refine pure_ (i := 11) (N := some 24) (v := undef) (a' := ?_) (zl 20 4095) rfl rfl (any_of HT_.out (by kernel_rfl)) (fun _ _ _ h => h) (Or.inr ⟨by rfl, rfl⟩) ?_ ?_
          rotate_left
          ·exact zs
          refine pure_ (i := 12) (N := some 25) (v := undef) (a' := ?_) (zl 20 8191) rfl rfl (any_of HT_.out (by kernel_rfl)) (fun _ _ _ h => h) (Or.inr ⟨by rfl, rfl⟩) ?_ ?_
          rotate_left
          ·exact zs
          refine pure_ (i := 13) (N := some 26) (v := undef) (a' := ?_) (zl 20 16383) rfl rfl (any_of HT_.out (by kernel_rfl)) (fun _ _ _ h => h) (Or.inr ⟨by rfl, rfl⟩) ?_ ?_
          rotate_left
          ·exact zs
          refine pure_ (i := 14) (N := some 27) (v := undef) (a' := ?_) (zl 20 32767) rfl rfl (any_of HT_.out (by kernel_rfl)) (fun _ _ _ h => h) (Or.inr ⟨by rfl, rfl⟩) ?_ ?_
          rotate_left
          ·exact zs
          refine pure_ (i := 15) (N := some 28) (v := undef) (a' := ?_) (zl 20 65535) rfl rfl (any_of HT_.out (by kernel_rfl)) (fun _ _ _ h => h) (Or.inr ⟨by rfl, rfl⟩) ?_ ?_
          rotate_left
          ·exact zs
          refine pure_ (i := 16) (N := some 29) (v := undef) (a' := ?_) (zl 20 131071) rfl rfl (any_of HT_.out (by kernel_rfl)) (fun _ _ _ h => h) (Or.inr ⟨by rfl, rfl⟩) ?_ ?_
          rotate_left
          ·exact zs
          refine pure_ (i := 17) (N := some 30) (v := undef) (a' := ?_) (zl 20 262143) rfl rfl (any_of HT_.out (by kernel_rfl)) (fun _ _ _ h => h) (Or.inr ⟨by rfl, rfl⟩) ?_ ?_
          rotate_left
          ·exact zs
          refine pure_ (i := 18) (N := some 31) (v := undef) (a' := ?_) (zl 20 524287) rfl rfl (any_of HT_.out (by kernel_rfl)) (fun _ _ _ h => h) (Or.inr ⟨by rfl, rfl⟩) ?_ ?_
          rotate_left
          ·exact zs
          refine zp 19 32 20 1048575 HT_ ?_
          refine done_ (done_of HT_.out (by kernel_rfl)) ?_
          have hcz32_0 : w30.cell? ⟨gb2325, 0, none⟩ = some (.int .i64 ((rd_T26 l0 x9_1).f0)) := (blk_cell BK2325.out 0).trans rfl
          have hcz32_1 : w30.cell? ⟨gb2325, 1, none⟩ = some (.int .i64 ((rd_T26 l0 x9_1).f1)) := (blk_cell BK2325.out 1).trans rfl
          have hfz32_0 := blk_frozen BK2325.out 0
          have hfz32_1 := blk_frozen BK2325.out 1
          try go_wp2_with (first | ((with_reducible refine gate_builtin (b := .append) (xs := #[.tmp 38, .tmp 40]) rfl ?_); (try (refine gate_guard (by rfl) ?_; dsimp only)); at_builtin; refine Kd.R_append k26 (w0 := w) w.heap.size rfl (.tmp 38) (.tmp 40) 24 26 (.agg #[(.int .i64 0), (.int .i64 0)]) 16 rfl Try.underlying24 info26 rfl (by decide) (by omega) (.slice Ao31 x3_2.length co31) x3_2 (⟨((rd_T26 l0 x9_1).f0), ((rd_T26 l0 x9_1).f1)⟩ : S26) [.int .i64 ((rd_T26 l0 x9_1).f0), .int .i64 ((rd_T26 l0 x9_1).f1)] (fun k_ => k_ ≠ gb2325) (fun _ => False) rfl rfl ?aP (fun _ hk => hk.elim) ?aF ?aO ?aB ?aS ?aL ?_; (case aP => exact k26_mkM _ _ _ (⟨((rd_T26 l0 x9_1).f0), ((rd_T26 l0 x9_1).f1)⟩ : S26)); (case aB => exact zb); (case aF => exact (fun k_ hk => Kd.freshB (g := gb2325) (o := .cells #[.int .i64 ((rd_T26 l0 x9_1).f0), .int .i64 ((rd_T26 l0 x9_1).f1)] 26 (0, 0)) zk k_ hk)); (case aO => exact (by (with_reducible repeat (first | apply Kd.R_alloc | apply Kd.R_drewN | apply Kd.R_drew)); exact HO_3.out)); (case aS => exact (below_size zb)); (case aL => have := LMc29.out; omega); intro v2336 w33 ho hb hg hat; rw [← Ny2335.out] at ho; have n0_ := Aside0.mk (blk_grown (g := gb2325) (o := .cells #[.int .i64 ((rd_T26 l0 x9_1).f0), .int .i64 ((rd_T26 l0 x9_1).f1)] 26 (0, 0)) zk hg (Kd.R_away HO_3.out (fun _ hk => hk))); have n1_ := Aside0.mk (hb); have n2_ := Aside0.mk (ho); clear BK2325; clear HB; clear HO_3; have BK2325 := n0_; have HB := n1_; have HO2337 := n2_; clear n0_ n1_ n2_; clear ho hb hg hat))
          go_roundg k2
          case measure => have := HK1.out; have := HK2.out; omega
          case rel => exact ⟨(y2335), (wrap64 (x9_1 + 1)), (by first | rfl | (simp; done) | (simp [*]; done)), H', ⟨by have := HK1.out; have := HK2.out; omega⟩, ⟨by (with_reducible repeat (first | apply Kd.R_alloc | apply Kd.R_drewN | apply Kd.R_drew)); exact Kd.R_mono HO2337.out (fun _ hk => trivial)⟩, ⟨zb⟩⟩
         ·rw [if_neg c29] at H
          exact absurd H (by simp)
     ·rw [if_neg c6] at H
      exact absurd H (by simp)
    ·rw [if_neg c5] at H
     exact absurd H (by simp)
   ·rw [if_neg c4] at H
    have c4b0 : decide (x9_1 < (l0.length : Int)) = false := decide_eq_false c4
    clear c4
    obtain rfl := Option.some.inj H
    go_wp2
    go_ret
    exact ⟨_, by first | rfl | (simp [errW_none, errW_some] <;> rfl) | (simp [*, errW_none, errW_some] <;> rfl), by (with_reducible repeat (first | apply Kd.R_alloc | apply Kd.R_drewN | apply Kd.R_drew)); exact HO_3.out, zb⟩
def impl_Peg_299.f (a0 : Int) : Option (List (S26)) := if 0 ≤ a0 ∧ a0 ≤ 1000000000 then some [] else none
theorem impl_Peg_299.calls (a0 : Int) (r : List (S26)) (w : World) (h : impl_Peg_299.f a0 = some r) :
  Calls Try.prog 299 #[.slice none 0 0, .int .i64 a0] w fun e w' => ∃ v0_ : Value, e = .returned (v0_) ∧ Kd.R k26 26 w' w.heap.size (fun _ => True) v0_ r ∧ Below w.heap.size w w' := by
 unfold impl_Peg_299.f at h
 by_cases c : 0 ≤ a0 ∧ a0 ≤ 1000000000
 ·rw [if_pos c] at h
  obtain rfl := Option.some.inj h
  exact YtphpdfcblchpnaaH.grow_nil a0 c.1 c.2 w
 ·rw [if_neg c] at h
  cases h
end Go.Proofs.Ytphpdfcblchpnaa.Q
namespace Go.Proofs.Ytphpdfcblchpnaa.Q
open Go.RowKit Go.Proofs.YtphpdfcblchpnaaW.PrintWords Go.Proofs.YtphpdfcblchpnaaW.PrintLast Go.Proofs.YtphpdfcblchpnaaW.PrintMore
attribute [local go_sem] max2_int min2_int max_two min_two max_three min_three max_four min_four   -- for this text's walks alone
set_option linter.unusedVariables false
set_option linter.unusedSimpArgs false
attribute [local go_sem high] eqA26
mutual
def impl_Peg_292.l0 : Nat → List (List (S26)) → Int → List (List (S26)) → Int → Int → Option ((List (S26)))
 | 0, _, _, _, _, _ => none
 | k + 1, x0, x3, x9, x10, x11 => if x11 < x10 then (if 0 ≤ x11 then (if x11 < (x9.length : Int) then (if (wrap64 (x3 + ((rd_L3 x9 x11).length : Int))) < 0 then (none) else (impl_Peg_292.l0 k x0 (wrap64 (x3 + ((rd_L3 x9 x11).length : Int))) x9 x10 (wrap64 (x11 + 1)))) else (none)) else (none)) else ((impl_Peg_299.f x3).bind fun t2339 => (impl_Peg_292.l1 k t2339 x0 (x0.length : Int) 0))
def impl_Peg_292.l1 : Nat → List (S26) → List (List (S26)) → Int → Int → Option ((List (S26)))
 | 0, _, _, _, _ => none
 | k + 1, x6, x25, x26, x27 => if x27 < x26 then (if 0 ≤ x27 then (if x27 < (x25.length : Int) then (if x6.length + (rd_L3 x25 x27).length < 8796093022208 then (impl_Peg_292.l1 k (x6 ++ (rd_L3 x25 x27)) x25 x26 (wrap64 (x27 + 1))) else (none)) else (none)) else (none)) else (some x6)
end
def impl_Peg_292.f (k : Nat) (l0 : List (List (S26))) : Option ((List (S26))) := impl_Peg_292.l0 k l0 0 l0 (l0.length : Int) 0
set_option maxHeartbeats 8000000 in
set_option maxRecDepth 100000 in
theorem impl_Peg_292.calls (k : Nat) (A0 : Option Addr) (c0 : Nat) (l0 : List (List (S26))) (r : List (S26)) (w : World) (hr0 : Kd.C (Kd.slice 26 k26) w A0 l0.length l0) (hc0 : l0.length ≤ c0) (h : impl_Peg_292.f k l0 = some r) :
  Calls Try.prog 292 #[.slice A0 l0.length c0] w fun e w' => ∃ v0_ : Value, e = .returned (v0_) ∧ Kd.R k26 26 w' w.heap.size (fun _ => True) v0_ r ∧ Below w.heap.size w w' := by
 have HR0 := Aside0.mk hr0
 have HC0 := Aside0.mk hc0
 clear hr0 hc0
 have HB := Aside0.mk (Below.refl w.heap.size w)
 have H : (impl_Peg_292.l0 k l0 0 l0 (l0.length : Int) 0) = some r := h
 clear h
 have H' := Aside0.mk H
 clear H
 go_enter Try.func292, Try.ntmps292
 go_wp2
 go_loopg [3, 11] k (fun kq v3 v11 w' => ∃ (x3_1 : Int) (x11_1 : Int), v3 = .int .i64 x3_1 ∧ v11 = .int .i64 x11_1 ∧ Aside0 (impl_Peg_292.l0 kq l0 x3_1 l0 (l0.length : Int) x11_1 = some r) ∧ Aside0 (kq ≤ k) ∧ Aside0 (Below w.heap.size w w'))
 case atStart => exact ⟨(0), (0), (by first | rfl | (simp; done) | (simp [*]; done)), (by first | rfl | (simp; done) | (simp [*]; done)), H', ⟨Nat.le_refl _⟩, ⟨zb⟩⟩
 case round =>
  clear H'
  obtain ⟨x3_1, x11_1, rfl, rfl, HA, HK1, HB⟩ := hrel
  cases gk with
  | zero => exact absurd HA.out (by simp [impl_Peg_292.l0])
  | succ k1 =>
   have H := HA.out
   clear HA
   simp only [impl_Peg_292.l0] at H
   by_cases c2 : x11_1 < (l0.length : Int)
   ·rw [if_pos c2] at H
    have c2b0 : decide (x11_1 < (l0.length : Int)) = true := decide_eq_true c2
    clear c2
    by_cases c3 : 0 ≤ x11_1
    ·rw [if_pos c3] at H
     have c3b0 : decide (0 ≤ x11_1) = true := decide_eq_true c3
     clear c3
     by_cases c4 : x11_1 < (l0.length : Int)
     ·rw [if_pos c4] at H
      have c4b0 : decide (x11_1 < (l0.length : Int)) = true := decide_eq_true c4
      clear c4
      by_cases c5 : (wrap64 (x3_1 + ((rd_L3 l0 x11_1).length : Int))) < 0
      ·rw [if_pos c5] at H
       exact absurd H (by simp)
      ·rw [if_neg c5] at H
       have c5b0 : decide ((wrap64 (x3_1 + ((rd_L3 l0 x11_1).length : Int))) < 0) = false := decide_eq_false c5
       clear c5
       have H' := Aside0.mk H
       clear H
       have p2338 : 0 ≤ (x11_1 : Int) := of_decide_eq_true (by first | (with_reducible assumption) | assumption)
       have q2338 : x11_1 < (l0.length : Int) := of_decide_eq_true (by first | (with_reducible assumption) | assumption)
       obtain ⟨ad2338, A2338_0, c2338_0, e2338, hx2338_0, hl2338_0, hi2338_0⟩ := at_L3 HR0.out x11_1 p2338 q2338
       cases e2338
       replace hx2338_0 := zc HB hx2338_0
       have HR2338_0 := Aside0.mk hi2338_0
       have HC2338_0 := Aside0.mk hl2338_0
       clear hi2338_0 hl2338_0
       replace p2338 := eq_true p2338
       replace q2338 := eq_true q2338
       go_wp2
       go_roundg k1
       case measure => have := HK1.out; omega
       case rel => exact ⟨(wrap64 (x3_1 + ((rd_L3 l0 x11_1).length : Int))), (wrap64 (x11_1 + 1)), (by first | rfl | (simp; done) | (simp [*]; done)), (by first | rfl | (simp; done) | (simp [*]; done)), H', ⟨by have := HK1.out; omega⟩, ⟨zb⟩⟩
     ·rw [if_neg c4] at H
      exact absurd H (by simp)
    ·rw [if_neg c3] at H
     exact absurd H (by simp)
   ·rw [if_neg c2] at H
    have c2b0 : decide (x11_1 < (l0.length : Int)) = false := decide_eq_false c2
    clear c2
    replace H := Option.bind_eq_some_iff.mp H
    obtain ⟨t2339, A60, H⟩ := H
    replace H : (impl_Peg_292.l1 k1 t2339 l0 (l0.length : Int) 0) = some r := H
    have A6 := Aside0.mk A60
    clear A60
    have H' := Aside0.mk H
    clear H
    go_wp2_with (first | ((with_reducible refine gate_callee (f := 299) rfl ?_); refine goesL_ (some 24) rfl rfl Try.func299 (by kernel_rfl) rfl #[.slice none 0 0, .int .i64 x3_1] rfl zn ?_; (with_reducible refine (impl_Peg_299.calls x3_1 t2339 _ A6.out).mono ?_); rintro e w7 ⟨v2340, rfl, ho0, hb⟩; refine ⟨_, rfl, ?_⟩; have n0_ := Aside0.mk (Kd.R_lower ho0 (below_size zb)); have n1_ := Aside0.mk (below_step zb hb); clear HB; have HO2341 := n0_; have HB := n1_; clear n0_ n1_; (try clear hb); (try clear hb2); (try clear hk); (try clear hi); (try clear ho0)))
    go_loopg [6, 27] k1 (fun kq v6 v27 w' => ∃ (x6_2 : List (S26)) (x27_2 : Int), v27 = .int .i64 x27_2 ∧ Aside0 (impl_Peg_292.l1 kq x6_2 l0 (l0.length : Int) x27_2 = some r) ∧ Aside0 (kq ≤ k1) ∧ Aside0 (Kd.R k26 26 w' w.heap.size (fun _ => True) v6 x6_2) ∧ Aside0 (Below w.heap.size w w'))
    case atStart => exact ⟨(t2339), (0), (by first | rfl | (simp; done) | (simp [*]; done)), H', ⟨Nat.le_refl _⟩, ⟨by (with_reducible repeat (first | apply Kd.R_alloc | apply Kd.R_drewN | apply Kd.R_drew)); exact HO2341.out⟩, ⟨zb⟩⟩
    case round =>
     clear H'
     try clear c2
     try clear c2b0
     try clear p2
     try clear q2
     try clear hx2
     try clear c3
     try clear c3b0
     try clear c4
     try clear c4b0
     try clear c5
     try clear c5b0
     try clear p6
     try clear hx2338_0
     try clear p2338
     try clear q2338
     obtain ⟨x6_2, x27_2, rfl, HA, HK2, HO_6, HB⟩ := hrel
     cases gk with
     | zero => exact absurd HA.out (by simp [impl_Peg_292.l1])
     | succ k2 =>
      have H := HA.out
      clear HA
      simp only [impl_Peg_292.l1] at H
      by_cases c8 : x27_2 < (l0.length : Int)
      ·rw [if_pos c8] at H
       have c8b0 : decide (x27_2 < (l0.length : Int)) = true := decide_eq_true c8
       clear c8
       by_cases c9 : 0 ≤ x27_2
       ·rw [if_pos c9] at H
        have c9b0 : decide (0 ≤ x27_2) = true := decide_eq_true c9
        clear c9
        by_cases c10 : x27_2 < (l0.length : Int)
        ·rw [if_pos c10] at H
         have c10b0 : decide (x27_2 < (l0.length : Int)) = true := decide_eq_true c10
         clear c10
         by_cases c11 : x6_2.length + (rd_L3 l0 x27_2).length < 8796093022208
         ·rw [if_pos c11] at H
          have LMc11 := Aside0.mk c11
          clear c11
          obtain ⟨y2343, hy2343⟩ : ∃ y_ : List (S26), y_ = (x6_2 ++ (rd_L3 l0 x27_2)) := ⟨_, rfl⟩
          replace H : (impl_Peg_292.l1 k2 y2343 l0 (l0.length : Int) (wrap64 (x27_2 + 1))) = some r := by first | (rw [hy2343]; with_reducible exact H) | (have H2_ := (Option.bind_some _ _).symm.trans H; rw [hy2343]; with_reducible exact H2_) | (have H2_ := (Option.bind_some _ _).symm.trans H; with_reducible exact H2_) | with_reducible exact H | (rw [hy2343]; exact H) | exact H
          have Ny2343 := Aside0.mk hy2343
          clear hy2343
          have H' := Aside0.mk H
          clear H
          have p2342 : 0 ≤ (x27_2 : Int) := of_decide_eq_true (by first | (with_reducible assumption) | assumption)
          have q2342 : x27_2 < (l0.length : Int) := of_decide_eq_true (by first | (with_reducible assumption) | assumption)
          obtain ⟨ad2342, A2342_0, c2342_0, e2342, hx2342_0, hl2342_0, hi2342_0⟩ := at_L3 HR0.out x27_2 p2342 q2342
          cases e2342
          replace hx2342_0 := zc HB hx2342_0
          have HR2342_0 := Aside0.mk hi2342_0
          have HC2342_0 := Aside0.mk hl2342_0
          clear hi2342_0 hl2342_0
          replace p2342 := eq_true p2342
          replace q2342 := eq_true q2342
          go_wp2_with (first | ((with_reducible refine gate_builtin (b := .append) (xs := #[.tmp 31, .tmp 32]) rfl ?_); at_builtin; refine Kd.R_append_rows k26 (w0 := w) w.heap.size rfl (.tmp 31) (.tmp 32) 24 26 (.agg #[(.int .i64 0), (.int .i64 0)]) 16 rfl Try.underlying24 info26 rfl (by decide) (by omega) u6 x6_2 (rd_L3 l0 x27_2) _ _ _ (fun _ => True) (fun _ => False) rfl rfl ?aO ?aR (fun _ _ h => h) (fun _ h => h.elim) ?aF ?aB ?aS ?aL ?_; (case aR => repeat (first | exact (Kd.C_below HR2342_0.out HB.out) | (with_reducible refine Kd.C_alloc ?_ _) | (with_reducible refine Kd.C_drewN ?_ _) | (with_reducible refine Kd.C_drew ?_))); (case aB => exact zb); (case aF => exact (fun _ _ => trivial)); (case aO => exact (by (with_reducible repeat (first | apply Kd.R_alloc | apply Kd.R_drewN | apply Kd.R_drew)); exact HO_6.out)); (case aS => exact (below_size zb)); (case aL => have := LMc11.out; omega); intro v2344 w12 ho hb hg hat; rw [← Ny2343.out] at ho; have n0_ := Aside0.mk (hb); have n1_ := Aside0.mk (ho); clear HB; clear HO_6; have HB := n0_; have HO2345 := n1_; clear n0_ n1_; clear ho hb hg hat))
          go_roundg k2
          case measure => have := HK1.out; have := HK2.out; omega
          case rel => exact ⟨(y2343), (wrap64 (x27_2 + 1)), (by first | rfl | (simp; done) | (simp [*]; done)), H', ⟨by have := HK1.out; have := HK2.out; omega⟩, ⟨by (with_reducible repeat (first | apply Kd.R_alloc | apply Kd.R_drewN | apply Kd.R_drew)); exact HO2345.out⟩, ⟨zb⟩⟩
         ·rw [if_neg c11] at H
          exact absurd H (by simp)
        ·rw [if_neg c10] at H
         exact absurd H (by simp)
       ·rw [if_neg c9] at H
        exact absurd H (by simp)
      ·rw [if_neg c8] at H
       have c8b0 : decide (x27_2 < (l0.length : Int)) = false := decide_eq_false c8
       clear c8
       obtain rfl := Option.some.inj H
       go_wp2
       go_ret
       exact ⟨_, by first | rfl | (simp [errW_none, errW_some] <;> rfl) | (simp [*, errW_none, errW_some] <;> rfl), by (with_reducible repeat (first | apply Kd.R_alloc | apply Kd.R_drewN | apply Kd.R_drew)); exact HO_6.out, zb⟩
def impl_band.f (k : Nat) (l0 : List (S26)) : Option ((List (S26))) := (impl_sorted.f l0).bind fun t2346 => (if (t2346.length : Int) = 1 then (some t2346) else ((impl_chain.f k t2346).bind fun t2349 => ((impl_Peg_219.f k t2346).bind fun t2352 => ((impl_chain.f k t2352).bind fun t2353 => (if 0 ≤ (wrap64 ((t2349.length : Int) - 1)) then (if (wrap64 ((t2349.length : Int) - 1)) ≤ (t2349.length : Int) then (if 0 ≤ (wrap64 ((t2353.length : Int) - 1)) then (if (wrap64 ((t2353.length : Int) - 1)) ≤ (t2353.length : Int) then ((impl_Peg_292.f k (([(t2349.take ((wrap64 ((t2349.length : Int) - 1)) : Int).toNat), (t2353.take ((wrap64 ((t2353.length : Int) - 1)) : Int).toNat)] : List (List (S26))))).bind fun t2369 => (some t2369)) else (none)) else (none)) else (none)) else (none))))))
def impl_band.T7 : Bool × List (List Nat × List Nat) := (true, [([], []), ([], []), ([1], [1]), ([2], [2]), ([0, 3], [0, 3]), ([], []), ([], []), ([6], [6]), ([7], [7]), ([5, 8], [5, 8]), ([4, 9], [4, 9]), ([10], [10]), ([11, 11, 0, 1, 2, 3, 4, 5, 6, 7, 8, 9, 10, 11], [11])])
def impl_band.B7 : List Nat := [0, 0, 2, 6, 15, 0, 0, 64, 192, 480, 1023, 2047, 4095]
theorem impl_band.tab7 : rtab .any (opsOf Try.f265 7) = impl_band.T7 := by kernel_rfl
theorem impl_band.bits7 : waitsOk impl_band.T7.2 impl_band.B7 = true := by kernel_rfl
set_option maxHeartbeats 8000000 in
set_option maxRecDepth 100000 in
theorem impl_band.calls (k : Nat) (A0 : Option Addr) (c0 : Nat) (l0 : List (S26)) (r : List (S26)) (w : World) (hr0 : Kd.C k26 w A0 l0.length l0) (hc0 : l0.length ≤ c0) (h : impl_band.f k l0 = some r) :
  Calls Try.prog 265 #[.slice A0 l0.length c0] w fun e w' => ∃ v0_ : Value, e = .returned (v0_) ∧ Kd.R k26 26 w' w.heap.size (fun _ => True) v0_ r ∧ Below w.heap.size w w' := by
 have HR0 := Aside0.mk hr0
 have HC0 := Aside0.mk hc0
 clear hr0 hc0
 have HB := Aside0.mk (Below.refl w.heap.size w)
 have H : ((impl_sorted.f l0).bind fun t2346 => (if (t2346.length : Int) = 1 then (some t2346) else ((impl_chain.f k t2346).bind fun t2349 => ((impl_Peg_219.f k t2346).bind fun t2352 => ((impl_chain.f k t2352).bind fun t2353 => (if 0 ≤ (wrap64 ((t2349.length : Int) - 1)) then (if (wrap64 ((t2349.length : Int) - 1)) ≤ (t2349.length : Int) then (if 0 ≤ (wrap64 ((t2353.length : Int) - 1)) then (if (wrap64 ((t2353.length : Int) - 1)) ≤ (t2353.length : Int) then ((impl_Peg_292.f k (([(t2349.take ((wrap64 ((t2349.length : Int) - 1)) : Int).toNat), (t2353.take ((wrap64 ((t2353.length : Int) - 1)) : Int).toNat)] : List (List (S26))))).bind fun t2369 => (some t2369)) else (none)) else (none)) else (none)) else (none))))))) = some r := h
 clear h
 replace H := Option.bind_eq_some_iff.mp H
 obtain ⟨t2346, A20, H⟩ := H
 replace H : (if (t2346.length : Int) = 1 then (some t2346) else ((impl_chain.f k t2346).bind fun t2349 => ((impl_Peg_219.f k t2346).bind fun t2352 => ((impl_chain.f k t2352).bind fun t2353 => (if 0 ≤ (wrap64 ((t2349.length : Int) - 1)) then (if (wrap64 ((t2349.length : Int) - 1)) ≤ (t2349.length : Int) then (if 0 ≤ (wrap64 ((t2353.length : Int) - 1)) then (if (wrap64 ((t2353.length : Int) - 1)) ≤ (t2353.length : Int) then ((impl_Peg_292.f k (([(t2349.take ((wrap64 ((t2349.length : Int) - 1)) : Int).toNat), (t2353.take ((wrap64 ((t2353.length : Int) - 1)) : Int).toNat)] : List (List (S26))))).bind fun t2369 => (some t2369)) else (none)) else (none)) else (none)) else (none)))))) = some r := H
 have A2 := Aside0.mk A20
 clear A20
 by_cases c3 : (t2346.length : Int) = 1
 ·rw [if_pos c3] at H
  have c3b0 : ((t2346.length : Int) == 1) = true := beq_iff_eq.mpr c3
  have c3b1 : ((t2346.length : Int) != 1) = false := bne_eq_false_iff_eq.mpr c3
  clear c3
  obtain rfl := Option.some.inj H
  go_enter Try.func265, Try.ntmps265
  go_wp2_with (first | ((with_reducible refine gate_callee (f := 214) rfl ?_); refine goesL_ (some 7) rfl rfl Try.func214 (by kernel_rfl) rfl #[.slice A0 l0.length c0] rfl zn ?_; (with_reducible refine (impl_sorted.calls _ _ l0 t2346 _ ?side1 ?side2 A2.out).mono ?_); (case side1 => repeat (first | exact HR0.out | (with_reducible refine Kd.C_alloc ?_ _) | (with_reducible refine Kd.C_drewN ?_ _) | (with_reducible refine Kd.C_drew ?_))); (case side2 => exact HC0.out); rintro e w4 ⟨v2347, rfl, ho0, hb⟩; refine ⟨_, rfl, ?_⟩; have n0_ := Aside0.mk (Kd.R_lower ho0 (below_size zb)); have n1_ := Aside0.mk (below_step zb hb); clear HB; have HO2348 := n0_; have HB := n1_; clear n0_ n1_; (try clear hb); (try clear hb2); (try clear hk); (try clear hi); (try clear ho0); obtain ⟨Ao5, co5, eo5⟩ := Kd.R_slice HO2348.out; subst eo5))
  go_ret
  exact ⟨_, by first | rfl | (simp [errW_none, errW_some] <;> rfl) | (simp [*, errW_none, errW_some] <;> rfl), by (with_reducible repeat (first | apply Kd.R_alloc | apply Kd.R_drewN | apply Kd.R_drew)); exact HO2348.out, zb⟩
 ·rw [if_neg c3] at H
  have c3b0 : ((t2346.length : Int) == 1) = false := beq_eq_false_iff_ne.mpr c3
  have c3b1 : ((t2346.length : Int) != 1) = true := bne_iff_ne.mpr c3
  replace H := Option.bind_eq_some_iff.mp H
  obtain ⟨t2349, A60, H⟩ := H
  replace H : ((impl_Peg_219.f k t2346).bind fun t2352 => ((impl_chain.f k t2352).bind fun t2353 => (if 0 ≤ (wrap64 ((t2349.length : Int) - 1)) then (if (wrap64 ((t2349.length : Int) - 1)) ≤ (t2349.length : Int) then (if 0 ≤ (wrap64 ((t2353.length : Int) - 1)) then (if (wrap64 ((t2353.length : Int) - 1)) ≤ (t2353.length : Int) then ((impl_Peg_292.f k (([(t2349.take ((wrap64 ((t2349.length : Int) - 1)) : Int).toNat), (t2353.take ((wrap64 ((t2353.length : Int) - 1)) : Int).toNat)] : List (List (S26))))).bind fun t2369 => (some t2369)) else (none)) else (none)) else (none)) else (none)))) = some r := H
  have A6 := Aside0.mk A60
  clear A60
  replace H := Option.bind_eq_some_iff.mp H
  obtain ⟨t2352, A70, H⟩ := H
  replace H : ((impl_chain.f k t2352).bind fun t2353 => (if 0 ≤ (wrap64 ((t2349.length : Int) - 1)) then (if (wrap64 ((t2349.length : Int) - 1)) ≤ (t2349.length : Int) then (if 0 ≤ (wrap64 ((t2353.length : Int) - 1)) then (if (wrap64 ((t2353.length : Int) - 1)) ≤ (t2353.length : Int) then ((impl_Peg_292.f k (([(t2349.take ((wrap64 ((t2349.length : Int) - 1)) : Int).toNat), (t2353.take ((wrap64 ((t2353.length : Int) - 1)) : Int).toNat)] : List (List (S26))))).bind fun t2369 => (some t2369)) else (none)) else (none)) else (none)) else (none))) = some r := H
  have A7 := Aside0.mk A70
  clear A70
  replace H := Option.bind_eq_some_iff.mp H
  obtain ⟨t2353, A80, H⟩ := H
  replace H : (if 0 ≤ (wrap64 ((t2349.length : Int) - 1)) then (if (wrap64 ((t2349.length : Int) - 1)) ≤ (t2349.length : Int) then (if 0 ≤ (wrap64 ((t2353.length : Int) - 1)) then (if (wrap64 ((t2353.length : Int) - 1)) ≤ (t2353.length : Int) then ((impl_Peg_292.f k (([(t2349.take ((wrap64 ((t2349.length : Int) - 1)) : Int).toNat), (t2353.take ((wrap64 ((t2353.length : Int) - 1)) : Int).toNat)] : List (List (S26))))).bind fun t2369 => (some t2369)) else (none)) else (none)) else (none)) else (none)) = some r := H
  have A8 := Aside0.mk A80
  clear A80
  obtain ⟨ji9, hji9⟩ : ∃ j_ : Int, (wrap64 ((t2349.length : Int) - 1)) = j_ := ⟨_, rfl⟩
  replace H : (if 0 ≤ (ji9) then (if (ji9) ≤ (t2349.length : Int) then (if 0 ≤ (wrap64 ((t2353.length : Int) - 1)) then (if (wrap64 ((t2353.length : Int) - 1)) ≤ (t2353.length : Int) then ((impl_Peg_292.f k (([(t2349.take ((ji9) : Int).toNat), (t2353.take ((wrap64 ((t2353.length : Int) - 1)) : Int).toNat)] : List (List (S26))))).bind fun t2369 => (some t2369)) else (none)) else (none)) else (none)) else (none)) = some r := by first | (rw [hji9] at H; exact H) | (simp only [hji9] at H ⊢; exact H)
  (try rw [hji9] at A2)
  (try rw [hji9] at A6)
  (try rw [hji9] at A7)
  (try rw [hji9] at A8)
  have hji9w : (IntKind.i64.wrap ((t2349.length : Int) - 1)) = ji9 := (i64_w _).trans hji9
  by_cases c10 : 0 ≤ (ji9)
  ·rw [if_pos c10] at H
   have c10b0 := eq_true c10
   have c10b1 : decide (0 ≤ (ji9)) = true := decide_eq_true c10
   clear c10
   by_cases c11 : (ji9) ≤ (t2349.length : Int)
   ·rw [if_pos c11] at H
    have c11b0 := eq_true c11
    have c11b1 : decide ((ji9) ≤ (t2349.length : Int)) = true := decide_eq_true c11
    clear c11
    obtain ⟨y2356, hy2356⟩ : ∃ y_ : List (S26), y_ = (t2349.take ((ji9) : Int).toNat) := ⟨_, rfl⟩
    replace H : (if 0 ≤ (wrap64 ((t2353.length : Int) - 1)) then (if (wrap64 ((t2353.length : Int) - 1)) ≤ (t2353.length : Int) then ((impl_Peg_292.f k (([y2356, (t2353.take ((wrap64 ((t2353.length : Int) - 1)) : Int).toNat)] : List (List (S26))))).bind fun t2369 => (some t2369)) else (none)) else (none)) = some r := by first | (rw [hy2356]; with_reducible exact H) | (have H2_ := (Option.bind_some _ _).symm.trans H; rw [hy2356]; with_reducible exact H2_) | (have H2_ := (Option.bind_some _ _).symm.trans H; with_reducible exact H2_) | with_reducible exact H | (rw [hy2356]; exact H) | exact H
    have Ny2356 := Aside0.mk hy2356
    clear hy2356
    obtain ⟨ji12, hji12⟩ : ∃ j_ : Int, (wrap64 ((t2353.length : Int) - 1)) = j_ := ⟨_, rfl⟩
    replace H : (if 0 ≤ (ji12) then (if (ji12) ≤ (t2353.length : Int) then ((impl_Peg_292.f k (([y2356, (t2353.take ((ji12) : Int).toNat)] : List (List (S26))))).bind fun t2369 => (some t2369)) else (none)) else (none)) = some r := by first | (rw [hji12] at H; exact H) | (simp only [hji12] at H ⊢; exact H)
    (try rw [hji12] at A2)
    (try rw [hji12] at A6)
    (try rw [hji12] at A7)
    (try rw [hji12] at A8)
    have hji12w : (IntKind.i64.wrap ((t2353.length : Int) - 1)) = ji12 := (i64_w _).trans hji12
    by_cases c13 : 0 ≤ (ji12)
    ·rw [if_pos c13] at H
     have c13b0 := eq_true c13
     have c13b1 : decide (0 ≤ (ji12)) = true := decide_eq_true c13
     clear c13
     by_cases c14 : (ji12) ≤ (t2353.length : Int)
     ·rw [if_pos c14] at H
      have c14b0 := eq_true c14
      have c14b1 : decide ((ji12) ≤ (t2353.length : Int)) = true := decide_eq_true c14
      clear c14
      obtain ⟨y2361, hy2361⟩ : ∃ y_ : List (S26), y_ = (t2353.take ((ji12) : Int).toNat) := ⟨_, rfl⟩
      replace H : ((impl_Peg_292.f k (([y2356, y2361] : List (List (S26))))).bind fun t2369 => (some t2369)) = some r := by first | (rw [hy2361]; with_reducible exact H) | (have H2_ := (Option.bind_some _ _).symm.trans H; rw [hy2361]; with_reducible exact H2_) | (have H2_ := (Option.bind_some _ _).symm.trans H; with_reducible exact H2_) | with_reducible exact H | (rw [hy2361]; exact H) | exact H
      have Ny2361 := Aside0.mk hy2361
      clear hy2361
      obtain ⟨y2366, hy2366⟩ : ∃ y_ : List (List (S26)), y_ = (([y2356, y2361] : List (List (S26)))) := ⟨_, rfl⟩
      replace H : ((impl_Peg_292.f k y2366).bind fun t2369 => (some t2369)) = some r := by first | (rw [hy2366]; with_reducible exact H) | (have H2_ := (Option.bind_some _ _).symm.trans H; rw [hy2366]; with_reducible exact H2_) | (have H2_ := (Option.bind_some _ _).symm.trans H; with_reducible exact H2_) | with_reducible exact H | (rw [hy2366]; exact H) | exact H
      have Ny2366 := Aside0.mk hy2366
      clear hy2366
      replace H := Option.bind_eq_some_iff.mp H
      obtain ⟨t2369, A150, H⟩ := H
      replace H : (some t2369) = some r := H
      have A15 := Aside0.mk A150
      clear A150
      obtain rfl := Option.some.inj H
      go_enter Try.func265, Try.ntmps265
      try go_wp2_with (first | ((with_reducible refine gate_callee (f := 214) rfl ?_); refine goesL_ (some 7) rfl rfl Try.func214 (by kernel_rfl) rfl #[.slice A0 l0.length c0] rfl zn ?_; (with_reducible refine (impl_sorted.calls _ _ l0 t2346 _ ?side1 ?side2 A2.out).mono ?_); (case side1 => repeat (first | exact HR0.out | (with_reducible refine Kd.C_alloc ?_ _) | (with_reducible refine Kd.C_drewN ?_ _) | (with_reducible refine Kd.C_drew ?_))); (case side2 => exact HC0.out); rintro e w16 ⟨v2347, rfl, ho0, hb⟩; refine ⟨_, rfl, ?_⟩; have n0_ := Aside0.mk (Kd.R_lower ho0 (below_size zb)); have n1_ := Aside0.mk (below_step zb hb); clear HB; have HO2348 := n0_; have HB := n1_; clear n0_ n1_; (try clear hb); (try clear hb2); (try clear hk); (try clear hi); (try clear ho0); obtain ⟨Ao17, co17, eo17⟩ := Kd.R_slice HO2348.out; subst eo17) | ((with_reducible refine gate_callee (f := 291) rfl ?_); refine goesL_ (some 13) rfl rfl Try.func291 (by kernel_rfl) rfl #[.slice Ao17 t2346.length co17] rfl zn ?_; (with_reducible refine (impl_chain.calls k _ _ t2346 t2349 _ ?side1 ?side2 A6.out).mono ?_); (case side1 => repeat (first | exact (Kd.R_reads' HO2348.out).2.2 | (with_reducible refine Kd.C_alloc ?_ _) | (with_reducible refine Kd.C_drewN ?_ _) | (with_reducible refine Kd.C_drew ?_))); (case side2 => exact (Kd.R_reads' HO2348.out).2.1); rintro e w18 ⟨v2350, rfl, ho0, hb⟩; refine ⟨_, rfl, ?_⟩; have n0_ := Aside0.mk (Kd.R_elder' (by (with_reducible repeat (first | apply Kd.R_alloc | apply Kd.R_drewN | apply Kd.R_drew)); exact HO2348.out) (Kd.R_base ho0) hb); have n1_ := Aside0.mk (Kd.R_lower (Kd.R_new' ho0 (Kd.R_lt (by (with_reducible repeat (first | apply Kd.R_alloc | apply Kd.R_drewN | apply Kd.R_drew)); exact HO2348.out))) (below_size zb)); have n2_ := Aside0.mk (below_step zb hb); clear HO2348; clear HB; have HO2348 := n0_; have HO2351 := n1_; have HB := n2_; clear n0_ n1_ n2_; (try clear hb); (try clear hb2); (try clear hk); (try clear hi); (try clear ho0)) | ((with_reducible refine gate_callee (f := 219) rfl ?_); refine goesL_ (some 15) rfl rfl Try.func219 (by kernel_rfl) rfl #[.slice Ao17 t2346.length co17] rfl zn ?_; (with_reducible refine (impl_Peg_219.calls k (fun k_ => some k_ = (.slice Ao17 t2346.length co17 : Value).ownBlock) (.slice Ao17 t2346.length co17) t2346 t2352 w _ ?side1 ?side2 A7.out).mono ?_); (case side1 => repeat (first | (with_reducible first | exact HB.out | apply below_alloc | apply pw_below_drewN | apply below_drew1) | exact HB.out)); (case side2 => exact Kd.R_tight rfl HO2348.out); rintro e w19 ⟨rfl, hy0, hb, hkp⟩; refine ⟨_, rfl, ?_⟩; have n0_ := Aside0.mk (Kd.R_reok rfl hy0 (fun k_ e_ => HO2348.out.1 k_ e_)); have n1_ := Aside0.mk (Kd.R_mono (ok' := fun k_ => some k_ ≠ (.slice Ao17 t2346.length co17 : Value).ownBlock) (Kd.R_keptB (HO2351.out) hkp (fun k_ hk_ hs_ => (hk_.2) hs_)) (fun k_ hk_ => hk_.1.2)); have n2_ := Aside0.mk (hb); clear HO2348; clear HO2351; clear HB; have HO2348 := n0_; have HO2351 := n1_; have HB := n2_; clear n0_ n1_ n2_; (try clear hb); (try clear hkp); (try clear hy0)) | ((with_reducible refine gate_callee (f := 291) rfl ?_); refine goesL_ (some 17) rfl rfl Try.func291 (by kernel_rfl) rfl #[.slice Ao17 t2352.length co17] rfl (by (try simp only [List.map_toArray, List.map_cons, List.map_nil]); first | done | (rw [show t2352.length = t2346.length from (Kd.R_reads' HO2348.out).1.symm] <;> rfl) | rfl | (simp only [List.length_drop, List.length_take]; rfl)) ?_; (with_reducible refine (impl_chain.calls k _ _ t2352 t2353 _ ?side1 ?side2 A8.out).mono ?_); (case side1 => repeat (first | exact (Kd.R_reads' HO2348.out).2.2 | (with_reducible refine Kd.C_alloc ?_ _) | (with_reducible refine Kd.C_drewN ?_ _) | (with_reducible refine Kd.C_drew ?_))); (case side2 => rw [show t2352.length = t2346.length from (Kd.R_reads' HO2348.out).1.symm]; exact (Kd.R_reads' HO2348.out).2.1); rintro e w20 ⟨v2354, rfl, ho0, hb⟩; refine ⟨_, rfl, ?_⟩; have n0_ := Aside0.mk (Kd.R_elder' (by (with_reducible repeat (first | apply Kd.R_alloc | apply Kd.R_drewN | apply Kd.R_drew)); exact HO2348.out) (Kd.R_base ho0) hb); have n1_ := Aside0.mk (Kd.R_elder' (by (with_reducible repeat (first | apply Kd.R_alloc | apply Kd.R_drewN | apply Kd.R_drew)); exact HO2351.out) (Kd.R_base ho0) hb); have n2_ := Aside0.mk (Kd.R_lower (Kd.R_new' (Kd.R_new' ho0 (Kd.R_lt (by (with_reducible repeat (first | apply Kd.R_alloc | apply Kd.R_drewN | apply Kd.R_drew)); exact HO2348.out))) (Kd.R_lt (by (with_reducible repeat (first | apply Kd.R_alloc | apply Kd.R_drewN | apply Kd.R_drew)); exact HO2351.out))) (below_size zb)); have n3_ := Aside0.mk (below_step zb hb); clear HO2348; clear HO2351; clear HB; have HO2348 := n0_; have HO2351 := n1_; have HO2355 := n2_; have HB := n3_; clear n0_ n1_ n2_ n3_; (try clear hb); (try clear hb2); (try clear hk); (try clear hi); (try clear ho0)))
      have n0_ := Aside0.mk (Kd.R_drew HO2348.out)
      have n1_ := Aside0.mk (Kd.R_drew HO2351.out)
      have n2_ := Aside0.mk (Kd.R_drew HO2355.out)
      have n3_ := Aside0.mk (below_drew1 HB.out)
      clear HO2348
      clear HO2351
      clear HO2355
      clear HB
      have HO2348 := n0_
      have HO2351 := n1_
      have HO2355 := n2_
      have HB := n3_
      clear n0_ n1_ n2_ n3_
      obtain ⟨Ao22, co22, eo22⟩ := Kd.R_slice HO2351.out
      (first | subst eo22 | (injection eo22 with f1_ f2_ f3_; have f4_ := f1_.symm; have f5_ := f3_.symm; clear f1_ f2_ f3_; subst f4_; subst f5_))
      have q23 : ((ji9) : Int) ≤ ((t2349.length : Int) : Int) := of_decide_eq_true (by first | (with_reducible assumption) | assumption)
      obtain ⟨i023, hi023, _, hsz23, _⟩ := info_parts info26
      have hroom23 : t2349.length ≤ co22 := (Kd.R_reads' HO2351.out).2.1
      have hC23 : Kd.F k26 _ _ Ao22 t2349.length t2349 := (Kd.V_at (base := w.heap.size) (Kd.R_V HO2351.out)).2.2
      have hcut23 := cut_to (P := Try.prog) 24 26 .i64 Try.underlying24 hi023 Ao22 t2349.length co22 (ji9) (of_decide_eq_true (by first | (with_reducible assumption) | assumption)) q23 hroom23
      have hr23 := Kd.F_take (m := ((ji9) : Int).toNat) hC23 (by omega)
      have hy23 : y2356.length = ((ji9) : Int).toNat := (by rw [Ny2356.out, List.length_take]; omega)
      rw [← Ny2356.out] at hr23
      rw [← hy23] at hcut23
      have HO2360 := Aside0.mk (show Kd.V k26 26 _ w.heap.size _ (.slice Ao22 y2356.length co22) y2356 from Kd.V_mk (by omega) hr23)
      have HC2360 := Aside0.mk (show y2356.length ≤ co22 from by omega)
      clear hr23 hC23 hroom23 hi023 hsz23
      have KY23 := Aside0.mk hy23
      clear hy23
      replace q23 := eq_true q23
      obtain ⟨Ao24, co24, eo24⟩ := Kd.R_slice HO2355.out
      (first | subst eo24 | (injection eo24 with f1_ f2_ f3_; have f4_ := f1_.symm; have f5_ := f3_.symm; clear f1_ f2_ f3_; subst f4_; subst f5_))
      have q25 : ((ji12) : Int) ≤ ((t2353.length : Int) : Int) := of_decide_eq_true (by first | (with_reducible assumption) | assumption)
      obtain ⟨i025, hi025, _, hsz25, _⟩ := info_parts info26
      have hroom25 : t2353.length ≤ co24 := (Kd.R_reads' HO2355.out).2.1
      have hC25 : Kd.F k26 _ _ Ao24 t2353.length t2353 := (Kd.V_at (base := w.heap.size) (Kd.R_V HO2355.out)).2.2
      have hcut25 := cut_to (P := Try.prog) 24 26 .i64 Try.underlying24 hi025 Ao24 t2353.length co24 (ji12) (of_decide_eq_true (by first | (with_reducible assumption) | assumption)) q25 hroom25
      have hr25 := Kd.F_take (m := ((ji12) : Int).toNat) hC25 (by omega)
      have hy25 : y2361.length = ((ji12) : Int).toNat := (by rw [Ny2361.out, List.length_take]; omega)
      rw [← Ny2361.out] at hr25
      rw [← hy25] at hcut25
      have HO2365 := Aside0.mk (show Kd.V k26 26 _ w.heap.size _ (.slice Ao24 y2361.length co24) y2361 from Kd.V_mk (by omega) hr25)
      have HC2365 := Aside0.mk (show y2361.length ≤ co24 from by omega)
      clear hr25 hC25 hroom25 hi025 hsz25
      have KY25 := Aside0.mk hy25
      clear hy25
      replace q25 := eq_true q25
      refine start_ (n := 13) (S := fun w' => True) (ds := []) (zl 13 0) (by kernel_rfl) rfl rfl trivial (fun hHeld => ?_); refine with_tabW impl_band.tab7 impl_band.bits7 (fun HT_ HW_ => ?_)
      generalize w20.drew = w21 at HO2348 HO2351 HO2355 HB HO2360 HO2365 hHeld ⊢
      refine zp 0 18 13 1 HT_ ?_
      refine zp 1 19 13 3 HT_ ?_
      refine zp 2 20 13 7 HT_ ?_
      refine zp 3 21 13 15 HT_ ?_
      refine zp 4 22 13 31 HT_ ?_
      refine zp 5 23 13 63 HT_ ?_
      refine zp 6 24 13 127 HT_ ?_
      refine zp 7 25 13 255 HT_ ?_
      refine zp 8 26 13 511 HT_ ?_
      refine zp 9 27 13 1023 HT_ ?_
      refine one_ (i := 10) (N := some 28) (zl 13 2047) rfl rfl (one_of HT_.out (by kernel_rfl)) (by decide) (fun K hK => ?_)
      refine Kd.N_lit_step (Kd.slice 26 k26) _ 24 ?hg (N' := 28) ?hd (xs := ([y2356, y2361] : List (List (S26)))) (inner := [.slice Ao22 y2356.length co22, .slice Ao24 y2361.length co24]) (ok := (fun k_ => some k_ ≠ (.slice Ao17 t2346.length co17 : Value).ownBlock)) (okp := (fun k_ => some k_ ≠ (.slice Ao17 t2346.length co17 : Value).ownBlock)) ?hr ?hp (fun _ hk => hk) ((show ∀ k_, w21.heap.size ≤ k_ → (fun k_ => some k_ ≠ (.slice Ao17 t2346.length co17 : Value).ownBlock) k_ from fun k_ hk => Kd.fresh' (Kd.R_lt (by (with_reducible repeat (first | apply Kd.R_alloc | apply Kd.R_drewN | apply Kd.R_drew)); exact HO2348.out)) k_ hk) _ (Nat.le_refl _)) (Below.refl _ _) (Nat.le_refl _) (by simp) ?_; (case hd => rfl); (case hg => rfl); (case hr => first | (go_simp; done) | (go_simp; rfl)); (case hp => exact (Reps.one (show Kd.FK (Kd.slice 26 k26) _ _ y2356 [.slice Ao22 y2356.length co22] from (Kd.FK_slice_mk (Kd.V_reads' (Kd.V_mono (ok' := (fun k_ => some k_ ≠ (.slice Ao17 t2346.length co17 : Value).ownBlock)) (HO2360.out) (fun k_ hk => hk.1))).2.1 (Kd.V_F (Kd.V_mono (ok' := (fun k_ => some k_ ≠ (.slice Ao17 t2346.length co17 : Value).ownBlock)) (HO2360.out) (fun k_ hk => hk.1))))) (Reps.one (show Kd.FK (Kd.slice 26 k26) _ _ y2361 [.slice Ao24 y2361.length co24] from (Kd.FK_slice_mk (Kd.V_reads' (Kd.V_mono (ok' := (fun k_ => some k_ ≠ (.slice Ao17 t2346.length co17 : Value).ownBlock)) (HO2365.out) (fun k_ hk => hk.1.2))).2.1 (Kd.V_F (Kd.V_mono (ok' := (fun k_ => some k_ ≠ (.slice Ao17 t2346.length co17 : Value).ownBlock)) (HO2365.out) (fun k_ hk => hk.1.2))))) (Reps.none _ _))))
      intro v2367 w26 ho27 hb hg_ hnew_
      clear hg_ hnew_
      (first | rw [← Ny2366.out] at ho27 | (simp only [Int.reduceToNat] at ho27; rw [← Ny2366.out] at ho27))
      have n0_ := Aside0.mk (Kd.R_below (by (with_reducible repeat (first | apply Kd.R_alloc | apply Kd.R_drewN | apply Kd.R_drew)); exact HO2348.out) hb)
      have n1_ := Aside0.mk (Kd.R_below (by (with_reducible repeat (first | apply Kd.R_alloc | apply Kd.R_drewN | apply Kd.R_drew)); exact HO2351.out) hb)
      have n2_ := Aside0.mk (Kd.R_below (by (with_reducible repeat (first | apply Kd.R_alloc | apply Kd.R_drewN | apply Kd.R_drew)); exact HO2355.out) hb)
      have n3_ := Aside0.mk (Kd.V_elder' (by (with_reducible repeat (first | apply Kd.V_alloc | apply Kd.V_drewN | apply Kd.V_drew)); exact HO2360.out) (Kd.N_base ho27) hb)
      have n4_ := Aside0.mk (Kd.V_elder' (by (with_reducible repeat (first | apply Kd.V_alloc | apply Kd.V_drewN | apply Kd.V_drew)); exact HO2365.out) (Kd.N_base ho27) hb)
      have n5_ := Aside0.mk (Kd.N_lower ho27 (below_size zb))
      have n6_ := Aside0.mk (below_step zb hb)
      clear HO2348
      clear HO2351
      clear HO2355
      clear HO2360
      clear HO2365
      clear HB
      have HO2348 := n0_
      have HO2351 := n1_
      have HO2355 := n2_
      have HO2360 := n3_
      have HO2365 := n4_
      have HO2368 := n5_
      have HB := n6_
      clear n0_ n1_ n2_ n3_ n4_ n5_ n6_
      clear hb ho27
      obtain ⟨Ao28, co28, eo28⟩ := Kd.N_slice HO2368.out
      (first | subst eo28 | (injection eo28 with f1_ f2_ f3_; have f4_ := f1_.symm; have f5_ := f3_.symm; clear f1_ f2_ f3_; subst f4_; subst f5_))
      refine hK.out _ _ trivial (fun hHeld => ?_)
      clear hK K
      refine norm_ (a' := ?_) ?_ ?_
      rotate_left
      ·show Act.put _ (some 28) _ = _
       exact zs
      refine one_ (i := 11) (N := some 29) (zl 13 4095) rfl rfl (one_of HT_.out (by kernel_rfl)) (by decide) (fun K hK => ?_)
      refine goes_ Try.func292 (by kernel_rfl) rfl #[.slice Ao28 y2366.length co28] (by rfl) rfl rfl zn ?_
      with_reducible refine (impl_Peg_292.calls k _ _ y2366 t2369 _ ?side1 ?side2 A15.out).mono ?_
      (case side1 => repeat (first | exact (Kd.N_reads' HO2368.out).2.2 | (with_reducible refine Kd.C_alloc ?_ _) | (with_reducible refine Kd.C_drewN ?_ _) | (with_reducible refine Kd.C_drew ?_)))
      (case side2 => exact (Kd.N_reads' HO2368.out).2.1)
      rintro e w29 ⟨v2370, rfl, ho0, hb⟩
      refine ⟨_, rfl, ?_⟩
      have n0_ := Aside0.mk (Kd.R_elder' (by (with_reducible repeat (first | apply Kd.R_alloc | apply Kd.R_drewN | apply Kd.R_drew)); exact HO2348.out) (Kd.R_base ho0) hb)
      have n1_ := Aside0.mk (Kd.R_elder' (by (with_reducible repeat (first | apply Kd.R_alloc | apply Kd.R_drewN | apply Kd.R_drew)); exact HO2351.out) (Kd.R_base ho0) hb)
      have n2_ := Aside0.mk (Kd.R_elder' (by (with_reducible repeat (first | apply Kd.R_alloc | apply Kd.R_drewN | apply Kd.R_drew)); exact HO2355.out) (Kd.R_base ho0) hb)
      have n3_ := Aside0.mk (Kd.V_elder' (by (with_reducible repeat (first | apply Kd.V_alloc | apply Kd.V_drewN | apply Kd.V_drew)); exact HO2360.out) (Kd.R_base ho0) hb)
      have n4_ := Aside0.mk (Kd.V_elder' (by (with_reducible repeat (first | apply Kd.V_alloc | apply Kd.V_drewN | apply Kd.V_drew)); exact HO2365.out) (Kd.R_base ho0) hb)
      have n5_ := Aside0.mk (Kd.N_elder' (by (with_reducible repeat (first | apply Kd.N_alloc | apply Kd.N_drewN | apply Kd.N_drew)); exact HO2368.out) (Kd.R_base ho0) hb)
      have n6_ := Aside0.mk (Kd.R_lower (Kd.R_new' (Kd.R_new' (Kd.R_new' ho0 (Kd.R_lt (by (with_reducible repeat (first | apply Kd.R_alloc | apply Kd.R_drewN | apply Kd.R_drew)); exact HO2348.out))) (Kd.R_lt (by (with_reducible repeat (first | apply Kd.R_alloc | apply Kd.R_drewN | apply Kd.R_drew)); exact HO2351.out))) (Kd.R_lt (by (with_reducible repeat (first | apply Kd.R_alloc | apply Kd.R_drewN | apply Kd.R_drew)); exact HO2355.out))) (below_size zb))
      have n7_ := Aside0.mk (below_step zb hb)
      clear HO2348
      clear HO2351
      clear HO2355
      clear HO2360
      clear HO2365
      clear HO2368
      clear HB
      have HO2348 := n0_
      have HO2351 := n1_
      have HO2355 := n2_
      have HO2360 := n3_
      have HO2365 := n4_
      have HO2368 := n5_
      have HO2371 := n6_
      have HB := n7_
      clear n0_ n1_ n2_ n3_ n4_ n5_ n6_ n7_
      (try clear hb)
      (try clear hb2)
      (try clear hk)
      (try clear hi)
      (try clear ho0)
      refine hK.out _ _ trivial (fun hHeld => ?_)
      clear hK K
      refine norm_ (a' := ?_) ?_ ?_
      rotate_left
      ·show Act.put _ (some 29) _ = _
       exact zs
      refine zp 12 2 13 8191 HT_ ?_
      refine done_ (done_of HT_.out (by kernel_rfl)) ?_
      try go_wp2
      go_ret
      exact ⟨_, by first | rfl | (simp [errW_none, errW_some] <;> rfl) | (simp only [← hji9, ← hji12]; first | rfl | (simp [errW_none, errW_some] <;> rfl)) | (simp [*, errW_none, errW_some] <;> rfl), by (with_reducible repeat (first | apply Kd.R_alloc | apply Kd.R_drewN | apply Kd.R_drew)); exact Kd.R_mono HO2371.out (fun _ hk => trivial), zb⟩
     ·rw [if_neg c14] at H
      exact absurd H (by simp)
    ·rw [if_neg c13] at H
     exact absurd H (by simp)
   ·rw [if_neg c11] at H
    exact absurd H (by simp)
  ·rw [if_neg c10] at H
   exact absurd H (by simp)
def impl_bandWhere.j0 : Nat → List (S26) → Bool → Int → Int → Option (Int)
 | 0, _, _, _, _ => none
 | k + 1, x0, x5, x2373000, x2373001 => if x5 = true then (some 0) else (if (x0.length : Int) = 1 then (some (-1)) else ((impl_where.f k x0 x2373000 x2373001).bind fun t2374 => (some t2374)))
def impl_bandWhere.f (k : Nat) (l0 : List (S26)) (a1_0 : Int) (a1_1 : Int) : Option (Int) := if (l0.length : Int) = 1 then (if 0 < (l0.length : Int) then (impl_bandWhere.j0 k l0 (a1_0 == ((rd_T26 l0 0).f0) && (a1_1 == ((rd_T26 l0 0).f1))) a1_0 a1_1) else (none)) else (impl_bandWhere.j0 k l0 false a1_0 a1_1)
set_option maxHeartbeats 8000000 in
set_option maxRecDepth 100000 in
theorem impl_bandWhere.calls (k : Nat) (A0 : Option Addr) (c0 : Nat) (l0 : List (S26)) (a1_0 : Int) (a1_1 : Int) (r : Int) (w : World) (hr0 : Kd.C k26 w A0 l0.length l0) (hc0 : l0.length ≤ c0) (h : impl_bandWhere.f k l0 a1_0 a1_1 = some r) :
  Calls Try.prog 266 #[.slice A0 l0.length c0, .agg #[.int .i64 a1_0, .int .i64 a1_1]] w fun e w' => e = .returned (.int .i64 r) ∧ Below w.heap.size w w' := by
 have hu26 := Try.underlying26
 have HR0 := Aside0.mk hr0
 have HC0 := Aside0.mk hc0
 clear hr0 hc0
 have HB := Aside0.mk (Below.refl w.heap.size w)
 have H : (if (l0.length : Int) = 1 then (if 0 < (l0.length : Int) then (impl_bandWhere.j0 k l0 (a1_0 == ((rd_T26 l0 0).f0) && (a1_1 == ((rd_T26 l0 0).f1))) a1_0 a1_1) else (none)) else (impl_bandWhere.j0 k l0 false a1_0 a1_1)) = some r := h
 clear h
 have HC3 := Aside0.mk H
 clear H
 go_enter Try.func266, Try.ntmps266
 go_upto_region 1 with (first | ((with_reducible refine gate_dst (N := 3) rfl ?_); refine box_event ?hg (N := 3) ?hd (cs := #[.int .i64 a1_0, .int .i64 a1_1]) (t := 26) ?hr ?_; (case hd => rfl); (case hg => rfl); (case hr => first | (go_simp; done) | (go_simp; rfl)); intro gb2372 hg w4 hbox hb; have n0_ := Aside0.mk (below_step zb hb); have n1_ := Aside0.mk (hbox); have n2_ := Aside0.mk ((by rw [hg]; exact (below_size zb) : w.heap.size ≤ gb2372)); have n3_ := Aside0.mk ((by rw [hg]; exact (below_size zb) : w.heap.size ≤ gb2372)); clear HB; have HB := n0_; have BK2372 := n1_; have GW2372 := n2_; have GE2372 := n3_; clear n0_ n1_ n2_ n3_; clear hb hbox hg))
 repeat (go_quiet (first | ((with_reducible refine gate_dst (N := 3) rfl ?_); refine box_event ?hg (N := 3) ?hd (cs := #[.int .i64 a1_0, .int .i64 a1_1]) (t := 26) ?hr ?_; (case hd => rfl); (case hg => rfl); (case hr => first | (go_simp; done) | (go_simp; rfl)); intro gb2372 hg w4 hbox hb; have n0_ := Aside0.mk (below_step zb hb); have n1_ := Aside0.mk (hbox); have n2_ := Aside0.mk ((by rw [hg]; exact (below_size zb) : w.heap.size ≤ gb2372)); have n3_ := Aside0.mk ((by rw [hg]; exact (below_size zb) : w.heap.size ≤ gb2372)); clear HB; have HB := n0_; have BK2372 := n1_; have GW2372 := n2_; have GE2372 := n3_; clear n0_ n1_ n2_ n3_; clear hb hbox hg)); go_upto_region 1 with (first | ((with_reducible refine gate_dst (N := 3) rfl ?_); refine box_event ?hg (N := 3) ?hd (cs := #[.int .i64 a1_0, .int .i64 a1_1]) (t := 26) ?hr ?_; (case hd => rfl); (case hg => rfl); (case hr => first | (go_simp; done) | (go_simp; rfl)); intro gb2372 hg w4 hbox hb; have n0_ := Aside0.mk (below_step zb hb); have n1_ := Aside0.mk (hbox); have n2_ := Aside0.mk ((by rw [hg]; exact (below_size zb) : w.heap.size ≤ gb2372)); have n3_ := Aside0.mk ((by rw [hg]; exact (below_size zb) : w.heap.size ≤ gb2372)); clear HB; have HB := n0_; have BK2372 := n1_; have GW2372 := n2_; have GE2372 := n3_; clear n0_ n1_ n2_ n3_; clear hb hbox hg)))
 (try simp only [Act.put, List.setIfInBounds_toArray, List.set_cons_zero, List.set_cons_succ])
 go_cut [5] (fun v5 wc => ∃ (kq : Nat) (x5_2 : Bool), v5 = .bool x5_2 ∧ Aside0 (impl_bandWhere.j0 kq l0 x5_2 a1_0 a1_1 = some r) ∧ Aside0 (kq ≤ k) ∧ Aside0 (wc.heap[gb2372]? = some (.cells #[.int .i64 a1_0, .int .i64 a1_1] 26 (0, 0))) ∧ Aside0 (Below w.heap.size w wc))
 case first =>
  have H := HC3.out
  clear HC3
  by_cases c5 : (l0.length : Int) = 1
  ·rw [if_pos c5] at H
   have c5b0 : ((l0.length : Int) == 1) = true := beq_iff_eq.mpr c5
   have c5b1 : ((l0.length : Int) != 1) = false := bne_eq_false_iff_eq.mpr c5
   clear c5
   (first | rw [c5b0] | (simp only [i64_w, i32_w]; rw [c5b0]) | skip)
   by_cases c6 : 0 < (l0.length : Int)
   ·rw [if_pos c6] at H
    have c6b0 : decide (0 < (l0.length : Int)) = true := decide_eq_true c6
    have c6b1 : decide (0 < l0.length) = true := decide_eq_true (by omega)
    clear c6
    have H' := Aside0.mk H
    clear H
    have hcz7_0 : w4.cell? ⟨gb2372, 0, none⟩ = some (.int .i64 a1_0) := (blk_cell BK2372.out 0).trans rfl
    have hcz7_1 : w4.cell? ⟨gb2372, 1, none⟩ = some (.int .i64 a1_1) := (blk_cell BK2372.out 1).trans rfl
    have hfz7_0 := blk_frozen BK2372.out 0
    have hfz7_1 := blk_frozen BK2372.out 1
    have p2373 : 0 ≤ (0 : Int) := (by omega)
    have q2373 : 0 < (l0.length : Int) := of_decide_eq_true (by first | (with_reducible assumption) | assumption)
    obtain ⟨ad2373, e2373, hx2373_0, hx2373_1⟩ := at_T26 HR0.out 0 p2373 q2373
    cases e2373
    have qi2373 : (0 < l0.length) = True := eq_true (by omega)
    (try rw [show ((0 : Int)).toNat = 0 from rfl] at hx2373_0)
    (try rw [show 0 * 2 = 0 from rfl] at hx2373_0)
    (try rw [Addr.add_zero'] at hx2373_0)
    (try rw [show ((0 : Int)).toNat = 0 from rfl] at hx2373_1)
    (try rw [show 0 * 2 = 0 from rfl] at hx2373_1)
    (try rw [Addr.add_zero'] at hx2373_1)
    replace hx2373_0 := zc HB hx2373_0
    replace hx2373_1 := zc HB hx2373_1
    replace p2373 := eq_true p2373
    replace q2373 := eq_true q2373
    go_wp2
    repeat (go_quiet (fail); try go_wp2)
    go_meet
    case rel => exact ⟨_, ((a1_0 == ((rd_T26 l0 0).f0) && (a1_1 == ((rd_T26 l0 0).f1)))), (by first | rfl | (simp; done) | (simp [*]; done)), H', ⟨by first | omega | exact Nat.le_refl _⟩, ⟨zk⟩, ⟨zb⟩⟩
   ·rw [if_neg c6] at H
    exact absurd H (by simp)
  ·rw [if_neg c5] at H
   have c5b0 : ((l0.length : Int) == 1) = false := beq_eq_false_iff_ne.mpr c5
   have c5b1 : ((l0.length : Int) != 1) = true := bne_iff_ne.mpr c5
   (first | rw [c5b0] | (simp only [i64_w, i32_w]; rw [c5b0]) | skip)
   have H' := Aside0.mk H
   clear H
   go_wp2
   repeat (go_quiet (fail); try go_wp2)
   go_meet
   case rel => exact ⟨_, (false), (by first | rfl | (simp; done) | (simp [*]; done)), H', ⟨by first | omega | exact Nat.le_refl _⟩, ⟨zk⟩, ⟨zb⟩⟩
 case rest =>
  clear HC3
  try clear c2
  try clear p2
  try clear q2
  try clear hx2
  try clear qi2
  try clear c5
  try clear c5b0
  try clear c5b1
  try clear c6
  try clear c6b0
  try clear c6b1
  try clear hcz7_0
  try clear hcz7_1
  try clear hfz7_0
  try clear hfz7_1
  try clear hx2373_0
  try clear hx2373_1
  try clear p2373
  try clear q2373
  obtain ⟨kq, x5_2, rfl, HA, HJ2, BK2372, HB⟩ := hcut
  cases kq with
  | zero => exact absurd HA.out (by simp [impl_bandWhere.j0])
  | succ kj2 =>
   have H := HA.out
   clear HA
   simp only [impl_bandWhere.j0] at H
   by_cases c8 : x5_2 = true
   ·subst c8
    have H1 : (some 0) = some r := by rw [if_pos rfl] at H; exact H
    clear H
    have H := H1
    clear H1
    obtain rfl := Option.some.inj H
    go_wp2
    repeat (go_quiet (fail); try go_wp2)
    go_ret
    exact ⟨by first | rfl | (simp [errW_none, errW_some] <;> rfl) | (simp [*, errW_none, errW_some] <;> rfl), zb⟩
   ·replace c8 := Bool.eq_false_iff.mpr c8
    subst c8
    have H1 : (if (l0.length : Int) = 1 then (some (-1)) else ((impl_where.f kj2 l0 a1_0 a1_1).bind fun t2374 => (some t2374))) = some r := by rw [if_neg (show ¬ (false = true) by decide)] at H; exact H
    clear H
    have H := H1
    clear H1
    by_cases c9 : (l0.length : Int) = 1
    ·rw [if_pos c9] at H
     have c9b0 : ((l0.length : Int) == 1) = true := beq_iff_eq.mpr c9
     have c9b1 : ((l0.length : Int) != 1) = false := bne_eq_false_iff_eq.mpr c9
     clear c9
     obtain rfl := Option.some.inj H
     go_wp2
     repeat (go_quiet (fail); try go_wp2)
     go_ret
     exact ⟨by first | rfl | (simp [errW_none, errW_some] <;> rfl) | (simp [*, errW_none, errW_some] <;> rfl), zb⟩
    ·rw [if_neg c9] at H
     have c9b0 : ((l0.length : Int) == 1) = false := beq_eq_false_iff_ne.mpr c9
     have c9b1 : ((l0.length : Int) != 1) = true := bne_iff_ne.mpr c9
     replace H := Option.bind_eq_some_iff.mp H
     obtain ⟨t2374, A100, H⟩ := H
     replace H : (some t2374) = some r := H
     have A10 := Aside0.mk A100
     clear A100
     obtain rfl := Option.some.inj H
     have hcz11_0 : wc.cell? ⟨gb2372, 0, none⟩ = some (.int .i64 a1_0) := (blk_cell BK2372.out 0).trans rfl
     have hcz11_1 : wc.cell? ⟨gb2372, 1, none⟩ = some (.int .i64 a1_1) := (blk_cell BK2372.out 1).trans rfl
     have hfz11_0 := blk_frozen BK2372.out 0
     have hfz11_1 := blk_frozen BK2372.out 1
     go_wp2_with (first | (go_at_call 137; (with_reducible refine (impl_where.calls kj2 _ _ l0 a1_0 a1_1 t2374 _ ?side1 ?side2 A10.out).mono ?_); (case side1 => repeat (first | exact (Kd.C_below HR0.out HB.out) | (with_reducible refine Kd.C_alloc ?_ _) | (with_reducible refine Kd.C_drewN ?_ _) | (with_reducible refine Kd.C_drew ?_))); (case side2 => exact HC0.out); rintro e w12 ⟨rfl, hb⟩; have n0_ := Aside0.mk (blk_below (g := gb2372) (o := .cells #[.int .i64 a1_0, .int .i64 a1_1] 26 (0, 0)) zk hb); have n1_ := Aside0.mk (below_step zb hb); clear BK2372; clear HB; have BK2372 := n0_; have HB := n1_; clear n0_ n1_; (try clear hb); (try clear hb2); (try clear hk); (try clear hi)))
     repeat (go_quiet (first | (go_at_call 137; (with_reducible refine (impl_where.calls kj2 _ _ l0 a1_0 a1_1 t2374 _ ?side1 ?side2 A10.out).mono ?_); (case side1 => repeat (first | exact (Kd.C_below HR0.out HB.out) | (with_reducible refine Kd.C_alloc ?_ _) | (with_reducible refine Kd.C_drewN ?_ _) | (with_reducible refine Kd.C_drew ?_))); (case side2 => exact HC0.out); rintro e w12 ⟨rfl, hb⟩; have n0_ := Aside0.mk (blk_below (g := gb2372) (o := .cells #[.int .i64 a1_0, .int .i64 a1_1] 26 (0, 0)) zk hb); have n1_ := Aside0.mk (below_step zb hb); clear BK2372; clear HB; have BK2372 := n0_; have HB := n1_; clear n0_ n1_; (try clear hb); (try clear hb2); (try clear hk); (try clear hi))); try go_wp2_with (first | (go_at_call 137; (with_reducible refine (impl_where.calls kj2 _ _ l0 a1_0 a1_1 t2374 _ ?side1 ?side2 A10.out).mono ?_); (case side1 => repeat (first | exact (Kd.C_below HR0.out HB.out) | (with_reducible refine Kd.C_alloc ?_ _) | (with_reducible refine Kd.C_drewN ?_ _) | (with_reducible refine Kd.C_drew ?_))); (case side2 => exact HC0.out); rintro e w12 ⟨rfl, hb⟩; have n0_ := Aside0.mk (blk_below (g := gb2372) (o := .cells #[.int .i64 a1_0, .int .i64 a1_1] 26 (0, 0)) zk hb); have n1_ := Aside0.mk (below_step zb hb); clear BK2372; clear HB; have BK2372 := n0_; have HB := n1_; clear n0_ n1_; (try clear hb); (try clear hb2); (try clear hk); (try clear hi))))
     go_ret
     exact ⟨by first | rfl | (simp [errW_none, errW_some] <;> rfl) | (simp [*, errW_none, errW_some] <;> rfl), zb⟩
end Go.Proofs.Ytphpdfcblchpnaa.Q
namespace Go.Proofs.Ytphpdfcblchpnaa.Q
open Go.RowKit Go.Proofs.YtphpdfcblchpnaaW.PrintWords Go.Proofs.YtphpdfcblchpnaaW.PrintLast Go.Proofs.YtphpdfcblchpnaaW.PrintMore
attribute [local go_sem] max2_int min2_int max_two min_two max_three min_three max_four min_four   -- for this text's walks alone
set_option linter.unusedVariables false
set_option linter.unusedSimpArgs false
def impl_onBand.l0 : Nat → List (S26) → List (S26) → List (S26) → List (S26) → Int → Int → Option ((List (S26)) × (List (S26)))
 | 0, _, _, _, _, _, _ => none
 | k + 1, x4, x5, x6, x14, x15, x16 => if x16 < x15 then (if 0 ≤ x16 then (if x16 < (x14.length : Int) then ((impl_bandWhere.f k x4 ((rd_T26 x14 x16).f0) ((rd_T26 x14 x16).f1)).bind fun t2389 => (if t2389 = 0 then (if x5.length < 8796093022208 then (impl_onBand.l0 k x4 (x5 ++ [(⟨(rd_T26 x14 x16).f0, (rd_T26 x14 x16).f1⟩ : S26)]) x6 x14 x15 (wrap64 (x16 + 1))) else (none)) else (if x6.length < 8796093022208 then (impl_onBand.l0 k x4 x5 (x6 ++ [(⟨(rd_T26 x14 x16).f0, (rd_T26 x14 x16).f1⟩ : S26)]) x14 x15 (wrap64 (x16 + 1))) else (none)))) else (none)) else (none)) else (some (x5, x6))
def impl_onBand.f (k : Nat) (l0 : List (S26)) : Option ((List (S26)) × (List (S26))) := (impl_band.f k l0).bind fun t2375 => ((impl_sorted.f l0).bind fun t2384 => (impl_onBand.l0 k t2375 (([] : List (S26))) (([] : List (S26))) t2384 (t2384.length : Int) 0))
set_option maxHeartbeats 8000000 in
set_option maxRecDepth 100000 in
theorem impl_onBand.calls (k : Nat) (A0 : Option Addr) (c0 : Nat) (l0 : List (S26)) (r1 : List (S26)) (r2 : List (S26)) (w : World) (hr0 : Kd.C k26 w A0 l0.length l0) (hc0 : l0.length ≤ c0) (h : impl_onBand.f k l0 = some (r1, r2)) :
  Calls Try.prog 224 #[.slice A0 l0.length c0] w fun e w' => ∃ v0_ v1_ : Value, e = .returned (.tuple #[v0_, v1_]) ∧ Kd.R k26 26 w' w.heap.size (fun k_ => some k_ ≠ (v1_ : Value).ownBlock) v0_ r1 ∧ Kd.R k26 26 w' w.heap.size (fun k_ => some k_ ≠ (v0_ : Value).ownBlock) v1_ r2 ∧ Below w.heap.size w w' := by
 have hu26 := Try.underlying26
 have HR0 := Aside0.mk hr0
 have HC0 := Aside0.mk hc0
 clear hr0 hc0
 have HB := Aside0.mk (Below.refl w.heap.size w)
 have H : ((impl_band.f k l0).bind fun t2375 => ((impl_sorted.f l0).bind fun t2384 => (impl_onBand.l0 k t2375 (([] : List (S26))) (([] : List (S26))) t2384 (t2384.length : Int) 0))) = some (r1, r2) := h
 clear h
 replace H := Option.bind_eq_some_iff.mp H
 obtain ⟨t2375, A20, H⟩ := H
 replace H : ((impl_sorted.f l0).bind fun t2384 => (impl_onBand.l0 k t2375 (([] : List (S26))) (([] : List (S26))) t2384 (t2384.length : Int) 0)) = some (r1, r2) := H
 have A2 := Aside0.mk A20
 clear A20
 obtain ⟨y2378, hy2378⟩ : ∃ y_ : List (S26), y_ = (([] : List (S26))) := ⟨_, rfl⟩
 replace H : ((impl_sorted.f l0).bind fun t2384 => (impl_onBand.l0 k t2375 y2378 (([] : List (S26))) t2384 (t2384.length : Int) 0)) = some (r1, r2) := by first | (rw [hy2378]; with_reducible exact H) | (have H2_ := (Option.bind_some _ _).symm.trans H; rw [hy2378]; with_reducible exact H2_) | (have H2_ := (Option.bind_some _ _).symm.trans H; with_reducible exact H2_) | with_reducible exact H | (rw [hy2378]; exact H) | exact H
 have Ny2378 := Aside0.mk hy2378
 clear hy2378
 obtain ⟨y2381, hy2381⟩ : ∃ y_ : List (S26), y_ = (([] : List (S26))) := ⟨_, rfl⟩
 replace H : ((impl_sorted.f l0).bind fun t2384 => (impl_onBand.l0 k t2375 y2378 y2381 t2384 (t2384.length : Int) 0)) = some (r1, r2) := by first | (rw [hy2381]; with_reducible exact H) | (have H2_ := (Option.bind_some _ _).symm.trans H; rw [hy2381]; with_reducible exact H2_) | (have H2_ := (Option.bind_some _ _).symm.trans H; with_reducible exact H2_) | with_reducible exact H | (rw [hy2381]; exact H) | exact H
 have Ny2381 := Aside0.mk hy2381
 clear hy2381
 replace H := Option.bind_eq_some_iff.mp H
 obtain ⟨t2384, A30, H⟩ := H
 replace H : (impl_onBand.l0 k t2375 y2378 y2381 t2384 (t2384.length : Int) 0) = some (r1, r2) := H
 have A3 := Aside0.mk A30
 clear A30
 have H' := Aside0.mk H
 clear H
 go_enter Try.func224, Try.ntmps224
 go_wp2_with (first | ((with_reducible refine gate_callee (f := 265) rfl ?_); refine goesL_ (some 10) rfl rfl Try.func265 (by kernel_rfl) rfl #[.slice A0 l0.length c0] rfl zn ?_; (with_reducible refine (impl_band.calls k _ _ l0 t2375 _ ?side1 ?side2 A2.out).mono ?_); (case side1 => repeat (first | exact HR0.out | (with_reducible refine Kd.C_alloc ?_ _) | (with_reducible refine Kd.C_drewN ?_ _) | (with_reducible refine Kd.C_drew ?_))); (case side2 => exact HC0.out); rintro e w4 ⟨v2376, rfl, ho0, hb⟩; refine ⟨_, rfl, ?_⟩; have n0_ := Aside0.mk (Kd.R_lower ho0 (below_size zb)); have n1_ := Aside0.mk (below_step zb hb); clear HB; have HO2377 := n0_; have HB := n1_; clear n0_ n1_; (try clear hb); (try clear hb2); (try clear hk); (try clear hi); (try clear ho0)) | ((with_reducible refine gate_dst (N := 11) rfl ?_); refine Kd.R_lit k26 _ 26 ?hg (N := 11) ?hd (xs := ([] : List (S26))) (inner := []) (ok := fun _ => True) (okp := fun _ => True) ?hr ?hp (fun _ hk => hk) trivial (Below.refl _ _) (Nat.le_refl _) (by simp) ?_; (case hd => rfl); (case hg => rfl); (case hr => first | (go_simp; done) | (go_simp; rfl)); (case hp => exact (Reps.none _ _)); intro v2379 w5 ho6 hb hg_ hnew_; clear hg_ hnew_; (first | rw [← Ny2378.out] at ho6 | (simp only [Int.reduceToNat] at ho6; rw [← Ny2378.out] at ho6)); have n0_ := Aside0.mk (Kd.R_elder' (by (with_reducible repeat (first | apply Kd.R_alloc | apply Kd.R_drewN | apply Kd.R_drew)); exact HO2377.out) (Kd.R_base ho6) hb); have n1_ := Aside0.mk (Kd.R_lower (Kd.R_new' ho6 (Kd.R_lt (by (with_reducible repeat (first | apply Kd.R_alloc | apply Kd.R_drewN | apply Kd.R_drew)); exact HO2377.out))) (below_size zb)); have n2_ := Aside0.mk (below_step zb hb); clear HO2377; clear HB; have HO2377 := n0_; have HO2380 := n1_; have HB := n2_; clear n0_ n1_ n2_; clear hb ho6) | ((with_reducible refine gate_dst (N := 12) rfl ?_); refine Kd.R_lit k26 _ 26 ?hg (N := 12) ?hd (xs := ([] : List (S26))) (inner := []) (ok := fun _ => True) (okp := fun _ => True) ?hr ?hp (fun _ hk => hk) trivial (Below.refl _ _) (Nat.le_refl _) (by simp) ?_; (case hd => rfl); (case hg => rfl); (case hr => first | (go_simp; done) | (go_simp; rfl)); (case hp => exact (Reps.none _ _)); intro v2382 w7 ho8 hb hg_ hnew_; clear hg_ hnew_; (first | rw [← Ny2381.out] at ho8 | (simp only [Int.reduceToNat] at ho8; rw [← Ny2381.out] at ho8)); have n0_ := Aside0.mk (Kd.R_elder' (by (with_reducible repeat (first | apply Kd.R_alloc | apply Kd.R_drewN | apply Kd.R_drew)); exact HO2377.out) (Kd.R_base ho8) hb); have n1_ := Aside0.mk (Kd.R_elder' (by (with_reducible repeat (first | apply Kd.R_alloc | apply Kd.R_drewN | apply Kd.R_drew)); exact HO2380.out) (Kd.R_base ho8) hb); have n2_ := Aside0.mk (Kd.R_lower (Kd.R_new' (Kd.R_new' ho8 (Kd.R_lt (by (with_reducible repeat (first | apply Kd.R_alloc | apply Kd.R_drewN | apply Kd.R_drew)); exact HO2377.out))) (Kd.R_lt (by (with_reducible repeat (first | apply Kd.R_alloc | apply Kd.R_drewN | apply Kd.R_drew)); exact HO2380.out))) (below_size zb)); have n3_ := Aside0.mk (below_step zb hb); clear HO2377; clear HO2380; clear HB; have HO2377 := n0_; have HO2380 := n1_; have HO2383 := n2_; have HB := n3_; clear n0_ n1_ n2_ n3_; clear hb ho8) | ((with_reducible refine gate_callee (f := 214) rfl ?_); refine goesL_ (some 14) rfl rfl Try.func214 (by kernel_rfl) rfl #[.slice A0 l0.length c0] rfl zn ?_; (with_reducible refine (impl_sorted.calls _ _ l0 t2384 _ ?side1 ?side2 A3.out).mono ?_); (case side1 => repeat (first | exact (Kd.C_below HR0.out HB.out) | (with_reducible refine Kd.C_alloc ?_ _) | (with_reducible refine Kd.C_drewN ?_ _) | (with_reducible refine Kd.C_drew ?_))); (case side2 => exact HC0.out); rintro e w9 ⟨v2385, rfl, ho0, hb⟩; refine ⟨_, rfl, ?_⟩; have n0_ := Aside0.mk (Kd.R_elder' (by (with_reducible repeat (first | apply Kd.R_alloc | apply Kd.R_drewN | apply Kd.R_drew)); exact HO2377.out) (Kd.R_base ho0) hb); have n1_ := Aside0.mk (Kd.R_elder' (by (with_reducible repeat (first | apply Kd.R_alloc | apply Kd.R_drewN | apply Kd.R_drew)); exact HO2380.out) (Kd.R_base ho0) hb); have n2_ := Aside0.mk (Kd.R_elder' (by (with_reducible repeat (first | apply Kd.R_alloc | apply Kd.R_drewN | apply Kd.R_drew)); exact HO2383.out) (Kd.R_base ho0) hb); have n3_ := Aside0.mk (Kd.R_lower (Kd.R_new' (Kd.R_new' (Kd.R_new' ho0 (Kd.R_lt (by (with_reducible repeat (first | apply Kd.R_alloc | apply Kd.R_drewN | apply Kd.R_drew)); exact HO2377.out))) (Kd.R_lt (by (with_reducible repeat (first | apply Kd.R_alloc | apply Kd.R_drewN | apply Kd.R_drew)); exact HO2380.out))) (Kd.R_lt (by (with_reducible repeat (first | apply Kd.R_alloc | apply Kd.R_drewN | apply Kd.R_drew)); exact HO2383.out))) (below_size zb)); have n4_ := Aside0.mk (below_step zb hb); clear HO2377; clear HO2380; clear HO2383; clear HB; have HO2377 := n0_; have HO2380 := n1_; have HO2383 := n2_; have HO2386 := n3_; have HB := n4_; clear n0_ n1_ n2_ n3_ n4_; (try clear hb); (try clear hb2); (try clear hk); (try clear hi); (try clear ho0); obtain ⟨Ao10, co10, eo10⟩ := Kd.R_slice HO2386.out; subst eo10))
 go_loopg [5, 6, 16] k (fun kq v5 v6 v16 w' => ∃ (x5_1 : List (S26)) (x6_1 : List (S26)) (x16_1 : Int), v16 = .int .i64 x16_1 ∧ Aside0 (impl_onBand.l0 kq t2375 x5_1 x6_1 t2384 (t2384.length : Int) x16_1 = some (r1, r2)) ∧ Aside0 (kq ≤ k) ∧ Aside0 (Kd.R k26 26 w' w.heap.size (fun k_ => some k_ ≠ (v5 : Value).ownBlock ∧ some k_ ≠ (v6 : Value).ownBlock ∧ some k_ ≠ ((.slice Ao10 t2384.length co10) : Value).ownBlock) v2376 t2375) ∧ Aside0 (Kd.R k26 26 w' w.heap.size (fun k_ => some k_ ≠ (v2376 : Value).ownBlock ∧ some k_ ≠ (v6 : Value).ownBlock ∧ some k_ ≠ ((.slice Ao10 t2384.length co10) : Value).ownBlock) v5 x5_1) ∧ Aside0 (Kd.R k26 26 w' w.heap.size (fun k_ => some k_ ≠ (v2376 : Value).ownBlock ∧ some k_ ≠ (v5 : Value).ownBlock ∧ some k_ ≠ ((.slice Ao10 t2384.length co10) : Value).ownBlock) v6 x6_1) ∧ Aside0 (Kd.R k26 26 w' w.heap.size (fun k_ => some k_ ≠ (v2376 : Value).ownBlock ∧ some k_ ≠ (v5 : Value).ownBlock ∧ some k_ ≠ (v6 : Value).ownBlock) (.slice Ao10 t2384.length co10) t2384) ∧ Aside0 (Below w.heap.size w w'))
 case atStart => exact ⟨(y2378), (y2381), (0), (by first | rfl | (simp; done) | (simp [*]; done)), H', ⟨Nat.le_refl _⟩, ⟨by (with_reducible repeat (first | apply Kd.R_alloc | apply Kd.R_drewN | apply Kd.R_drew)); exact Kd.R_mono HO2377.out (fun _ hk => ⟨hk.1.1.2, ⟨hk.1.2, hk.2⟩⟩)⟩, ⟨by (with_reducible repeat (first | apply Kd.R_alloc | apply Kd.R_drewN | apply Kd.R_drew)); exact Kd.R_mono HO2380.out (fun _ hk => ⟨hk.1.1.2, ⟨hk.1.2, hk.2⟩⟩)⟩, ⟨by (with_reducible repeat (first | apply Kd.R_alloc | apply Kd.R_drewN | apply Kd.R_drew)); exact Kd.R_mono HO2383.out (fun _ hk => ⟨hk.1.1.2, ⟨hk.1.2, hk.2⟩⟩)⟩, ⟨by (with_reducible repeat (first | apply Kd.R_alloc | apply Kd.R_drewN | apply Kd.R_drew)); exact Kd.R_mono HO2386.out (fun _ hk => ⟨hk.1.1.2, ⟨hk.1.2, hk.2⟩⟩)⟩, ⟨zb⟩⟩
 case round =>
  clear H'
  try clear c2
  try clear p2
  obtain ⟨x5_1, x6_1, x16_1, rfl, HA, HK1, HO_4, HO_5, HO_6, HO_14, HB⟩ := hrel
  cases gk with
  | zero => exact absurd HA.out (by simp [impl_onBand.l0])
  | succ k1 =>
   have H := HA.out
   clear HA
   simp only [impl_onBand.l0] at H
   by_cases c11 : x16_1 < (t2384.length : Int)
   ·rw [if_pos c11] at H
    have c11b0 : decide (x16_1 < (t2384.length : Int)) = true := decide_eq_true c11
    clear c11
    by_cases c12 : 0 ≤ x16_1
    ·rw [if_pos c12] at H
     have c12b0 : decide (0 ≤ x16_1) = true := decide_eq_true c12
     clear c12
     by_cases c13 : x16_1 < (t2384.length : Int)
     ·rw [if_pos c13] at H
      have c13b0 : decide (x16_1 < (t2384.length : Int)) = true := decide_eq_true c13
      clear c13
      replace H := Option.bind_eq_some_iff.mp H
      obtain ⟨t2389, A140, H⟩ := H
      replace H : (if t2389 = 0 then (if x5_1.length < 8796093022208 then (impl_onBand.l0 k1 t2375 (x5_1 ++ [(⟨(rd_T26 t2384 x16_1).f0, (rd_T26 t2384 x16_1).f1⟩ : S26)]) x6_1 t2384 (t2384.length : Int) (wrap64 (x16_1 + 1))) else (none)) else (if x6_1.length < 8796093022208 then (impl_onBand.l0 k1 t2375 x5_1 (x6_1 ++ [(⟨(rd_T26 t2384 x16_1).f0, (rd_T26 t2384 x16_1).f1⟩ : S26)]) t2384 (t2384.length : Int) (wrap64 (x16_1 + 1))) else (none))) = some (r1, r2) := H
      have A14 := Aside0.mk A140
      clear A140
      by_cases c15 : t2389 = 0
      ·rw [if_pos c15] at H
       have c15b0 : (t2389 == 0) = true := beq_iff_eq.mpr c15
       have c15b1 : (t2389 != 0) = false := bne_eq_false_iff_eq.mpr c15
       clear c15
       by_cases c16 : x5_1.length < 8796093022208
       ·rw [if_pos c16] at H
        have LMc16 := Aside0.mk c16
        clear c16
        obtain ⟨y2390, hy2390⟩ : ∃ y_ : List (S26), y_ = (x5_1 ++ [(⟨(rd_T26 t2384 x16_1).f0, (rd_T26 t2384 x16_1).f1⟩ : S26)]) := ⟨_, rfl⟩
        replace H : (impl_onBand.l0 k1 t2375 y2390 x6_1 t2384 (t2384.length : Int) (wrap64 (x16_1 + 1))) = some (r1, r2) := by first | (rw [hy2390]; with_reducible exact H) | (have H2_ := (Option.bind_some _ _).symm.trans H; rw [hy2390]; with_reducible exact H2_) | (have H2_ := (Option.bind_some _ _).symm.trans H; with_reducible exact H2_) | with_reducible exact H | (rw [hy2390]; exact H) | exact H
        have Ny2390 := Aside0.mk hy2390
        clear hy2390
        have H' := Aside0.mk H
        clear H
        have p2387 : 0 ≤ (x16_1 : Int) := of_decide_eq_true (by first | (with_reducible assumption) | assumption)
        have q2387 : x16_1 < (t2384.length : Int) := of_decide_eq_true (by first | (with_reducible assumption) | assumption)
        obtain ⟨ad2387, e2387, hx2387_0, hx2387_1⟩ := at_T26 (Kd.R_reads' HO_14.out).2.2 x16_1 p2387 q2387
        cases e2387
        replace p2387 := eq_true p2387
        replace q2387 := eq_true q2387
        go_wp2_with (first | ((with_reducible refine gate_dst (N := 8) rfl ?_); refine box_event ?hg (N := 8) ?hd (cs := #[.int .i64 0, .int .i64 0]) (t := 26) ?hr ?_; (case hd => rfl); (case hg => rfl); (case hr => first | (go_simp; done) | (go_simp; rfl)); intro gb2388 hg w17 hbox hb; have n0_ := Aside0.mk (Kd.R_below (Kd.R_elderB (by (with_reducible repeat (first | apply Kd.R_alloc | apply Kd.R_drewN | apply Kd.R_drew)); exact HO_4.out) gb2388 (Nat.le_of_eq hg.symm)) hb); have n1_ := Aside0.mk (Kd.R_below (Kd.R_elderB (by (with_reducible repeat (first | apply Kd.R_alloc | apply Kd.R_drewN | apply Kd.R_drew)); exact HO_5.out) gb2388 (Nat.le_of_eq hg.symm)) hb); have n2_ := Aside0.mk (Kd.R_below (Kd.R_elderB (by (with_reducible repeat (first | apply Kd.R_alloc | apply Kd.R_drewN | apply Kd.R_drew)); exact HO_6.out) gb2388 (Nat.le_of_eq hg.symm)) hb); have n3_ := Aside0.mk (Kd.R_below (Kd.R_elderB (by (with_reducible repeat (first | apply Kd.R_alloc | apply Kd.R_drewN | apply Kd.R_drew)); exact HO_14.out) gb2388 (Nat.le_of_eq hg.symm)) hb); have n4_ := Aside0.mk (below_step zb hb); have n5_ := Aside0.mk (hbox); have n6_ := Aside0.mk ((by rw [hg]; exact (below_size zb) : w.heap.size ≤ gb2388)); have n7_ := Aside0.mk ((by rw [hg]; exact (below_size zb) : w.heap.size ≤ gb2388)); clear HO_4; clear HO_5; clear HO_6; clear HO_14; clear HB; have HO_4 := n0_; have HO_5 := n1_; have HO_6 := n2_; have HO_14 := n3_; have HB := n4_; have BK2388 := n5_; have GW2388 := n6_; have GE2388 := n7_; clear n0_ n1_ n2_ n3_ n4_ n5_ n6_ n7_; clear hb hbox hg; have hcz18_0 : w17.cell? ⟨gb2388, 0, none⟩ = some (.int .i64 0) := (blk_cell BK2388.out 0).trans rfl; have hcz18_1 : w17.cell? ⟨gb2388, 1, none⟩ = some (.int .i64 0) := (blk_cell BK2388.out 1).trans rfl; have hfz18_0 := blk_frozen BK2388.out 0; have hfz18_1 := blk_frozen BK2388.out 1; obtain ⟨Ao19, co19, eo19⟩ := Kd.R_slice HO_4.out; subst eo19) | ((with_reducible refine gate_callee (f := 266) rfl ?_); refine goesL_ (some 22) rfl rfl Try.func266 (by kernel_rfl) rfl #[.slice Ao19 t2375.length co19, .agg #[.int .i64 ((rd_T26 t2384 x16_1).f0), .int .i64 ((rd_T26 t2384 x16_1).f1)]] rfl zn ?_; (with_reducible refine (impl_bandWhere.calls k1 _ _ t2375 ((rd_T26 t2384 x16_1).f0) ((rd_T26 t2384 x16_1).f1) t2389 _ ?side1 ?side2 A14.out).mono ?_); (case side1 => refine (Kd.R_reads' (e := 26) (base := w.heap.size) (ok := fun k_ => ((some k_ ≠ (u5 : Value).ownBlock ∧ (some k_ ≠ (u6 : Value).ownBlock ∧ some k_ ≠ (.slice (some ad2387) t2384.length co10 : Value).ownBlock)) ∧ k_ ≠ gb2388)) (n := t2375.length) (c := co19) ?_).2.2; exact (by (with_reducible repeat (first | apply Kd.R_alloc | apply Kd.R_drewN | apply Kd.R_drew)); exact (Kd.R_mono (Kd.R_far (p := ⟨gb2388, 1, none⟩) (Kd.R_far (p := ⟨gb2388, 0, none⟩) (Kd.R_mono HO_4.out (fun k_ hk => (⟨hk, hk.2⟩ : _ ∧ k_ ≠ gb2388))) (fun _ hk => hk.2) (.int .i64 ((rd_T26 t2384 x16_1).f0))) (fun _ hk => hk.2) (.int .i64 ((rd_T26 t2384 x16_1).f1))) (fun _ h_ => h_.1)))); (case side2 => exact (Kd.R_reads' HO_4.out).2.1); rintro e w20 ⟨rfl, hb⟩; refine ⟨_, rfl, ?_⟩; have n0_ := Aside0.mk (Kd.R_below (by (with_reducible repeat (first | apply Kd.R_alloc | apply Kd.R_drewN | apply Kd.R_drew)); exact (Kd.R_mono (Kd.R_far (p := ⟨gb2388, 1, none⟩) (Kd.R_far (p := ⟨gb2388, 0, none⟩) (Kd.R_mono HO_4.out (fun k_ hk => (⟨hk, hk.2⟩ : _ ∧ k_ ≠ gb2388))) (fun _ hk => hk.2) (.int .i64 ((rd_T26 t2384 x16_1).f0))) (fun _ hk => hk.2) (.int .i64 ((rd_T26 t2384 x16_1).f1))) (fun _ h_ => h_.1))) hb); have n1_ := Aside0.mk (Kd.R_below (by (with_reducible repeat (first | apply Kd.R_alloc | apply Kd.R_drewN | apply Kd.R_drew)); exact (Kd.R_mono (Kd.R_far (p := ⟨gb2388, 1, none⟩) (Kd.R_far (p := ⟨gb2388, 0, none⟩) (Kd.R_mono HO_5.out (fun k_ hk => (⟨hk, hk.2⟩ : _ ∧ k_ ≠ gb2388))) (fun _ hk => hk.2) (.int .i64 ((rd_T26 t2384 x16_1).f0))) (fun _ hk => hk.2) (.int .i64 ((rd_T26 t2384 x16_1).f1))) (fun _ h_ => h_.1))) hb); have n2_ := Aside0.mk (Kd.R_below (by (with_reducible repeat (first | apply Kd.R_alloc | apply Kd.R_drewN | apply Kd.R_drew)); exact (Kd.R_mono (Kd.R_far (p := ⟨gb2388, 1, none⟩) (Kd.R_far (p := ⟨gb2388, 0, none⟩) (Kd.R_mono HO_6.out (fun k_ hk => (⟨hk, hk.2⟩ : _ ∧ k_ ≠ gb2388))) (fun _ hk => hk.2) (.int .i64 ((rd_T26 t2384 x16_1).f0))) (fun _ hk => hk.2) (.int .i64 ((rd_T26 t2384 x16_1).f1))) (fun _ h_ => h_.1))) hb); have n3_ := Aside0.mk (Kd.R_below (by (with_reducible repeat (first | apply Kd.R_alloc | apply Kd.R_drewN | apply Kd.R_drew)); exact (Kd.R_mono (Kd.R_far (p := ⟨gb2388, 1, none⟩) (Kd.R_far (p := ⟨gb2388, 0, none⟩) (Kd.R_mono HO_14.out (fun k_ hk => (⟨hk, hk.2⟩ : _ ∧ k_ ≠ gb2388))) (fun _ hk => hk.2) (.int .i64 ((rd_T26 t2384 x16_1).f0))) (fun _ hk => hk.2) (.int .i64 ((rd_T26 t2384 x16_1).f1))) (fun _ h_ => h_.1))) hb); have n4_ := Aside0.mk (blk_below (g := gb2388) (o := .cells #[.int .i64 ((rd_T26 t2384 x16_1).f0), .int .i64 ((rd_T26 t2384 x16_1).f1)] 26 (0, 0)) (by (with_reducible repeat (first | refine blk_drewN ?_ _ | refine blk_drew ?_ | refine blk_alloc ?_ _)); refine blk_put (cs := #[.int .i64 ((rd_T26 t2384 x16_1).f0), .int .i64 0]) ?_ 1 _ rfl; (with_reducible repeat (first | refine blk_drewN ?_ _ | refine blk_drew ?_ | refine blk_alloc ?_ _)); refine blk_put (cs := #[.int .i64 0, .int .i64 0]) ?_ 0 _ rfl; (with_reducible repeat (first | refine blk_drewN ?_ _ | refine blk_drew ?_ | refine blk_alloc ?_ _)); exact BK2388.out) hb); have n5_ := Aside0.mk (below_step zb hb); clear HO_4; clear HO_5; clear HO_6; clear HO_14; clear BK2388; clear HB; have HO_4 := n0_; have HO_5 := n1_; have HO_6 := n2_; have HO_14 := n3_; have BK2388 := n4_; have HB := n5_; clear n0_ n1_ n2_ n3_ n4_ n5_; (try clear hb); (try clear hb2); (try clear hk); (try clear hi); have hcz21_0 : w20.cell? ⟨gb2388, 0, none⟩ = some (.int .i64 ((rd_T26 t2384 x16_1).f0)) := (blk_cell BK2388.out 0).trans rfl; have hcz21_1 : w20.cell? ⟨gb2388, 1, none⟩ = some (.int .i64 ((rd_T26 t2384 x16_1).f1)) := (blk_cell BK2388.out 1).trans rfl; have hfz21_0 := blk_frozen BK2388.out 0; have hfz21_1 := blk_frozen BK2388.out 1) | ((with_reducible refine gate_builtin (b := .append) (xs := #[.tmp 24, .tmp 26]) rfl ?_); at_builtin; refine Kd.R_append k26 (w0 := w) w.heap.size rfl (.tmp 24) (.tmp 26) 24 26 (.agg #[(.int .i64 0), (.int .i64 0)]) 16 rfl Try.underlying24 info26 rfl (by decide) (by omega) u5 x5_1 (⟨(rd_T26 t2384 x16_1).f0, (rd_T26 t2384 x16_1).f1⟩ : S26) [.int .i64 ((rd_T26 t2384 x16_1).f0), .int .i64 ((rd_T26 t2384 x16_1).f1)] (fun k_ => some k_ ≠ (.slice Ao19 t2375.length co19 : Value).ownBlock ∧ some k_ ≠ (u6 : Value).ownBlock ∧ some k_ ≠ (.slice (some ad2387) t2384.length co10 : Value).ownBlock ∧ k_ ≠ gb2388) (fun _ => False) rfl rfl ?aP (fun _ hk => hk.elim) ?aF ?aO ?aB ?aS ?aL ?_; (case aP => exact k26_mkM _ _ _ (⟨(rd_T26 t2384 x16_1).f0, (rd_T26 t2384 x16_1).f1⟩ : S26)); (case aB => exact zb); (case aF => exact (fun k_ hk => ⟨Kd.fresh' (Kd.R_lt (by (with_reducible repeat (first | apply Kd.R_alloc | apply Kd.R_drewN | apply Kd.R_drew)); exact HO_4.out)) k_ hk, Kd.fresh' (Kd.R_lt (by (with_reducible repeat (first | apply Kd.R_alloc | apply Kd.R_drewN | apply Kd.R_drew)); exact HO_6.out)) k_ hk, Kd.fresh' (Kd.R_lt (by (with_reducible repeat (first | apply Kd.R_alloc | apply Kd.R_drewN | apply Kd.R_drew)); exact HO_14.out)) k_ hk, Kd.freshB (g := gb2388) (o := .cells #[.int .i64 ((rd_T26 t2384 x16_1).f0), .int .i64 ((rd_T26 t2384 x16_1).f1)] 26 (0, 0)) zk k_ hk⟩)); (case aO => exact (by (with_reducible repeat (first | apply Kd.R_alloc | apply Kd.R_drewN | apply Kd.R_drew)); exact Kd.R_mono HO_5.out (fun _ hk => ⟨hk.1.1, ⟨hk.1.2.1, ⟨hk.1.2.2, hk.2⟩⟩⟩))); (case aS => exact (below_size zb)); (case aL => have := LMc16.out; omega); intro v2391 w22 ho hb hg hat; rw [← Ny2390.out] at ho; have n0_ := Aside0.mk (Kd.R_after (ok := (fun k_ => some k_ ≠ (u6 : Value).ownBlock ∧ some k_ ≠ (.slice (some ad2387) t2384.length co10 : Value).ownBlock ∧ k_ ≠ gb2388)) (by (with_reducible repeat (first | apply Kd.R_alloc | apply Kd.R_drewN | apply Kd.R_drew)); exact Kd.R_mono HO_4.out (fun _ hk => ⟨⟨hk.1.2.1, ⟨hk.1.2.2, hk.2⟩⟩, hk.1.1⟩)) hg hat); have n1_ := Aside0.mk (Kd.R_after (ok := (fun k_ => some k_ ≠ (.slice Ao19 t2375.length co19 : Value).ownBlock ∧ some k_ ≠ (.slice (some ad2387) t2384.length co10 : Value).ownBlock ∧ k_ ≠ gb2388)) (by (with_reducible repeat (first | apply Kd.R_alloc | apply Kd.R_drewN | apply Kd.R_drew)); exact Kd.R_mono HO_6.out (fun _ hk => ⟨⟨hk.1.1, ⟨hk.1.2.2, hk.2⟩⟩, hk.1.2.1⟩)) hg hat); have n2_ := Aside0.mk (Kd.R_after (ok := (fun k_ => some k_ ≠ (.slice Ao19 t2375.length co19 : Value).ownBlock ∧ some k_ ≠ (u6 : Value).ownBlock ∧ k_ ≠ gb2388)) (by (with_reducible repeat (first | apply Kd.R_alloc | apply Kd.R_drewN | apply Kd.R_drew)); exact Kd.R_mono HO_14.out (fun _ hk => ⟨⟨hk.1.1, ⟨hk.1.2.2, hk.2⟩⟩, hk.1.2.1⟩)) hg hat); have n3_ := Aside0.mk (blk_grown (g := gb2388) (o := .cells #[.int .i64 ((rd_T26 t2384 x16_1).f0), .int .i64 ((rd_T26 t2384 x16_1).f1)] 26 (0, 0)) zk hg (Kd.R_away HO_5.out (fun _ hk => hk.2))); have n4_ := Aside0.mk (hb); have n5_ := Aside0.mk (ho); clear HO_4; clear HO_6; clear HO_14; clear BK2388; clear HB; clear HO_5; have HO_4 := n0_; have HO_6 := n1_; have HO_14 := n2_; have BK2388 := n3_; have HB := n4_; have HO2392 := n5_; clear n0_ n1_ n2_ n3_ n4_ n5_; clear ho hb hg hat))
        go_roundg k1
        case measure => have := HK1.out; omega
        case rel => exact ⟨(y2390), (x6_1), (wrap64 (x16_1 + 1)), (by first | rfl | (simp; done) | (simp [*]; done)), H', ⟨by have := HK1.out; omega⟩, ⟨by (with_reducible repeat (first | apply Kd.R_alloc | apply Kd.R_drewN | apply Kd.R_drew)); exact Kd.R_mono HO_4.out (fun _ hk => ⟨hk.2, ⟨hk.1.1, hk.1.2.1⟩⟩)⟩, ⟨by (with_reducible repeat (first | apply Kd.R_alloc | apply Kd.R_drewN | apply Kd.R_drew)); exact Kd.R_mono HO2392.out (fun _ hk => ⟨hk.1, ⟨hk.2.1, hk.2.2.1⟩⟩)⟩, ⟨by (with_reducible repeat (first | apply Kd.R_alloc | apply Kd.R_drewN | apply Kd.R_drew)); exact Kd.R_mono HO_6.out (fun _ hk => ⟨hk.1.1, ⟨hk.2, hk.1.2.1⟩⟩)⟩, ⟨by (with_reducible repeat (first | apply Kd.R_alloc | apply Kd.R_drewN | apply Kd.R_drew)); exact Kd.R_mono HO_14.out (fun _ hk => ⟨hk.1.1, ⟨hk.2, hk.1.2.1⟩⟩)⟩, ⟨zb⟩⟩
       ·rw [if_neg c16] at H
        exact absurd H (by simp)
      ·rw [if_neg c15] at H
       have c15b0 : (t2389 == 0) = false := beq_eq_false_iff_ne.mpr c15
       have c15b1 : (t2389 != 0) = true := bne_iff_ne.mpr c15
       by_cases c23 : x6_1.length < 8796093022208
       ·rw [if_pos c23] at H
        have LMc23 := Aside0.mk c23
        clear c23
        obtain ⟨y2393, hy2393⟩ : ∃ y_ : List (S26), y_ = (x6_1 ++ [(⟨(rd_T26 t2384 x16_1).f0, (rd_T26 t2384 x16_1).f1⟩ : S26)]) := ⟨_, rfl⟩
        replace H : (impl_onBand.l0 k1 t2375 x5_1 y2393 t2384 (t2384.length : Int) (wrap64 (x16_1 + 1))) = some (r1, r2) := by first | (rw [hy2393]; with_reducible exact H) | (have H2_ := (Option.bind_some _ _).symm.trans H; rw [hy2393]; with_reducible exact H2_) | (have H2_ := (Option.bind_some _ _).symm.trans H; with_reducible exact H2_) | with_reducible exact H | (rw [hy2393]; exact H) | exact H
        have Ny2393 := Aside0.mk hy2393
        clear hy2393
        have H' := Aside0.mk H
        clear H
        have p2387 : 0 ≤ (x16_1 : Int) := of_decide_eq_true (by first | (with_reducible assumption) | assumption)
        have q2387 : x16_1 < (t2384.length : Int) := of_decide_eq_true (by first | (with_reducible assumption) | assumption)
        obtain ⟨ad2387, e2387, hx2387_0, hx2387_1⟩ := at_T26 (Kd.R_reads' HO_14.out).2.2 x16_1 p2387 q2387
        cases e2387
        replace p2387 := eq_true p2387
        replace q2387 := eq_true q2387
        go_wp2_with (first | ((with_reducible refine gate_dst (N := 8) rfl ?_); refine box_event ?hg (N := 8) ?hd (cs := #[.int .i64 0, .int .i64 0]) (t := 26) ?hr ?_; (case hd => rfl); (case hg => rfl); (case hr => first | (go_simp; done) | (go_simp; rfl)); intro gb2388 hg w24 hbox hb; have n0_ := Aside0.mk (Kd.R_below (Kd.R_elderB (by (with_reducible repeat (first | apply Kd.R_alloc | apply Kd.R_drewN | apply Kd.R_drew)); exact HO_4.out) gb2388 (Nat.le_of_eq hg.symm)) hb); have n1_ := Aside0.mk (Kd.R_below (Kd.R_elderB (by (with_reducible repeat (first | apply Kd.R_alloc | apply Kd.R_drewN | apply Kd.R_drew)); exact HO_5.out) gb2388 (Nat.le_of_eq hg.symm)) hb); have n2_ := Aside0.mk (Kd.R_below (Kd.R_elderB (by (with_reducible repeat (first | apply Kd.R_alloc | apply Kd.R_drewN | apply Kd.R_drew)); exact HO_6.out) gb2388 (Nat.le_of_eq hg.symm)) hb); have n3_ := Aside0.mk (Kd.R_below (Kd.R_elderB (by (with_reducible repeat (first | apply Kd.R_alloc | apply Kd.R_drewN | apply Kd.R_drew)); exact HO_14.out) gb2388 (Nat.le_of_eq hg.symm)) hb); have n4_ := Aside0.mk (below_step zb hb); have n5_ := Aside0.mk (hbox); have n6_ := Aside0.mk ((by rw [hg]; exact (below_size zb) : w.heap.size ≤ gb2388)); have n7_ := Aside0.mk ((by rw [hg]; exact (below_size zb) : w.heap.size ≤ gb2388)); clear HO_4; clear HO_5; clear HO_6; clear HO_14; clear HB; have HO_4 := n0_; have HO_5 := n1_; have HO_6 := n2_; have HO_14 := n3_; have HB := n4_; have BK2388 := n5_; have GW2388 := n6_; have GE2388 := n7_; clear n0_ n1_ n2_ n3_ n4_ n5_ n6_ n7_; clear hb hbox hg; have hcz25_0 : w24.cell? ⟨gb2388, 0, none⟩ = some (.int .i64 0) := (blk_cell BK2388.out 0).trans rfl; have hcz25_1 : w24.cell? ⟨gb2388, 1, none⟩ = some (.int .i64 0) := (blk_cell BK2388.out 1).trans rfl; have hfz25_0 := blk_frozen BK2388.out 0; have hfz25_1 := blk_frozen BK2388.out 1; obtain ⟨Ao26, co26, eo26⟩ := Kd.R_slice HO_4.out; subst eo26) | ((with_reducible refine gate_callee (f := 266) rfl ?_); refine goesL_ (some 22) rfl rfl Try.func266 (by kernel_rfl) rfl #[.slice Ao26 t2375.length co26, .agg #[.int .i64 ((rd_T26 t2384 x16_1).f0), .int .i64 ((rd_T26 t2384 x16_1).f1)]] rfl zn ?_; (with_reducible refine (impl_bandWhere.calls k1 _ _ t2375 ((rd_T26 t2384 x16_1).f0) ((rd_T26 t2384 x16_1).f1) t2389 _ ?side1 ?side2 A14.out).mono ?_); (case side1 => refine (Kd.R_reads' (e := 26) (base := w.heap.size) (ok := fun k_ => ((some k_ ≠ (u5 : Value).ownBlock ∧ (some k_ ≠ (u6 : Value).ownBlock ∧ some k_ ≠ (.slice (some ad2387) t2384.length co10 : Value).ownBlock)) ∧ k_ ≠ gb2388)) (n := t2375.length) (c := co26) ?_).2.2; exact (by (with_reducible repeat (first | apply Kd.R_alloc | apply Kd.R_drewN | apply Kd.R_drew)); exact (Kd.R_mono (Kd.R_far (p := ⟨gb2388, 1, none⟩) (Kd.R_far (p := ⟨gb2388, 0, none⟩) (Kd.R_mono HO_4.out (fun k_ hk => (⟨hk, hk.2⟩ : _ ∧ k_ ≠ gb2388))) (fun _ hk => hk.2) (.int .i64 ((rd_T26 t2384 x16_1).f0))) (fun _ hk => hk.2) (.int .i64 ((rd_T26 t2384 x16_1).f1))) (fun _ h_ => h_.1)))); (case side2 => exact (Kd.R_reads' HO_4.out).2.1); rintro e w27 ⟨rfl, hb⟩; refine ⟨_, rfl, ?_⟩; have n0_ := Aside0.mk (Kd.R_below (by (with_reducible repeat (first | apply Kd.R_alloc | apply Kd.R_drewN | apply Kd.R_drew)); exact (Kd.R_mono (Kd.R_far (p := ⟨gb2388, 1, none⟩) (Kd.R_far (p := ⟨gb2388, 0, none⟩) (Kd.R_mono HO_4.out (fun k_ hk => (⟨hk, hk.2⟩ : _ ∧ k_ ≠ gb2388))) (fun _ hk => hk.2) (.int .i64 ((rd_T26 t2384 x16_1).f0))) (fun _ hk => hk.2) (.int .i64 ((rd_T26 t2384 x16_1).f1))) (fun _ h_ => h_.1))) hb); have n1_ := Aside0.mk (Kd.R_below (by (with_reducible repeat (first | apply Kd.R_alloc | apply Kd.R_drewN | apply Kd.R_drew)); exact (Kd.R_mono (Kd.R_far (p := ⟨gb2388, 1, none⟩) (Kd.R_far (p := ⟨gb2388, 0, none⟩) (Kd.R_mono HO_5.out (fun k_ hk => (⟨hk, hk.2⟩ : _ ∧ k_ ≠ gb2388))) (fun _ hk => hk.2) (.int .i64 ((rd_T26 t2384 x16_1).f0))) (fun _ hk => hk.2) (.int .i64 ((rd_T26 t2384 x16_1).f1))) (fun _ h_ => h_.1))) hb); have n2_ := Aside0.mk (Kd.R_below (by (with_reducible repeat (first | apply Kd.R_alloc | apply Kd.R_drewN | apply Kd.R_drew)); exact (Kd.R_mono (Kd.R_far (p := ⟨gb2388, 1, none⟩) (Kd.R_far (p := ⟨gb2388, 0, none⟩) (Kd.R_mono HO_6.out (fun k_ hk => (⟨hk, hk.2⟩ : _ ∧ k_ ≠ gb2388))) (fun _ hk => hk.2) (.int .i64 ((rd_T26 t2384 x16_1).f0))) (fun _ hk => hk.2) (.int .i64 ((rd_T26 t2384 x16_1).f1))) (fun _ h_ => h_.1))) hb); have n3_ := Aside0.mk (Kd.R_below (by (with_reducible repeat (first | apply Kd.R_alloc | apply Kd.R_drewN | apply Kd.R_drew)); exact (Kd.R_mono (Kd.R_far (p := ⟨gb2388, 1, none⟩) (Kd.R_far (p := ⟨gb2388, 0, none⟩) (Kd.R_mono HO_14.out (fun k_ hk => (⟨hk, hk.2⟩ : _ ∧ k_ ≠ gb2388))) (fun _ hk => hk.2) (.int .i64 ((rd_T26 t2384 x16_1).f0))) (fun _ hk => hk.2) (.int .i64 ((rd_T26 t2384 x16_1).f1))) (fun _ h_ => h_.1))) hb); have n4_ := Aside0.mk (blk_below (g := gb2388) (o := .cells #[.int .i64 ((rd_T26 t2384 x16_1).f0), .int .i64 ((rd_T26 t2384 x16_1).f1)] 26 (0, 0)) (by (with_reducible repeat (first | refine blk_drewN ?_ _ | refine blk_drew ?_ | refine blk_alloc ?_ _)); refine blk_put (cs := #[.int .i64 ((rd_T26 t2384 x16_1).f0), .int .i64 0]) ?_ 1 _ rfl; (with_reducible repeat (first | refine blk_drewN ?_ _ | refine blk_drew ?_ | refine blk_alloc ?_ _)); refine blk_put (cs := #[.int .i64 0, .int .i64 0]) ?_ 0 _ rfl; (with_reducible repeat (first | refine blk_drewN ?_ _ | refine blk_drew ?_ | refine blk_alloc ?_ _)); exact BK2388.out) hb); have n5_ := Aside0.mk (below_step zb hb); clear HO_4; clear HO_5; clear HO_6; clear HO_14; clear BK2388; clear HB; have HO_4 := n0_; have HO_5 := n1_; have HO_6 := n2_; have HO_14 := n3_; have BK2388 := n4_; have HB := n5_; clear n0_ n1_ n2_ n3_ n4_ n5_; (try clear hb); (try clear hb2); (try clear hk); (try clear hi); have hcz28_0 : w27.cell? ⟨gb2388, 0, none⟩ = some (.int .i64 ((rd_T26 t2384 x16_1).f0)) := (blk_cell BK2388.out 0).trans rfl; have hcz28_1 : w27.cell? ⟨gb2388, 1, none⟩ = some (.int .i64 ((rd_T26 t2384 x16_1).f1)) := (blk_cell BK2388.out 1).trans rfl; have hfz28_0 := blk_frozen BK2388.out 0; have hfz28_1 := blk_frozen BK2388.out 1) | ((with_reducible refine gate_builtin (b := .append) (xs := #[.tmp 28, .tmp 30]) rfl ?_); at_builtin; refine Kd.R_append k26 (w0 := w) w.heap.size rfl (.tmp 28) (.tmp 30) 24 26 (.agg #[(.int .i64 0), (.int .i64 0)]) 16 rfl Try.underlying24 info26 rfl (by decide) (by omega) u6 x6_1 (⟨(rd_T26 t2384 x16_1).f0, (rd_T26 t2384 x16_1).f1⟩ : S26) [.int .i64 ((rd_T26 t2384 x16_1).f0), .int .i64 ((rd_T26 t2384 x16_1).f1)] (fun k_ => some k_ ≠ (.slice Ao26 t2375.length co26 : Value).ownBlock ∧ some k_ ≠ (u5 : Value).ownBlock ∧ some k_ ≠ (.slice (some ad2387) t2384.length co10 : Value).ownBlock ∧ k_ ≠ gb2388) (fun _ => False) rfl rfl ?aP (fun _ hk => hk.elim) ?aF ?aO ?aB ?aS ?aL ?_; (case aP => exact k26_mkM _ _ _ (⟨(rd_T26 t2384 x16_1).f0, (rd_T26 t2384 x16_1).f1⟩ : S26)); (case aB => exact zb); (case aF => exact (fun k_ hk => ⟨Kd.fresh' (Kd.R_lt (by (with_reducible repeat (first | apply Kd.R_alloc | apply Kd.R_drewN | apply Kd.R_drew)); exact HO_4.out)) k_ hk, Kd.fresh' (Kd.R_lt (by (with_reducible repeat (first | apply Kd.R_alloc | apply Kd.R_drewN | apply Kd.R_drew)); exact HO_5.out)) k_ hk, Kd.fresh' (Kd.R_lt (by (with_reducible repeat (first | apply Kd.R_alloc | apply Kd.R_drewN | apply Kd.R_drew)); exact HO_14.out)) k_ hk, Kd.freshB (g := gb2388) (o := .cells #[.int .i64 ((rd_T26 t2384 x16_1).f0), .int .i64 ((rd_T26 t2384 x16_1).f1)] 26 (0, 0)) zk k_ hk⟩)); (case aO => exact (by (with_reducible repeat (first | apply Kd.R_alloc | apply Kd.R_drewN | apply Kd.R_drew)); exact Kd.R_mono HO_6.out (fun _ hk => ⟨hk.1.1, ⟨hk.1.2.1, ⟨hk.1.2.2, hk.2⟩⟩⟩))); (case aS => exact (below_size zb)); (case aL => have := LMc23.out; omega); intro v2394 w29 ho hb hg hat; rw [← Ny2393.out] at ho; have n0_ := Aside0.mk (Kd.R_after (ok := (fun k_ => some k_ ≠ (u5 : Value).ownBlock ∧ some k_ ≠ (.slice (some ad2387) t2384.length co10 : Value).ownBlock ∧ k_ ≠ gb2388)) (by (with_reducible repeat (first | apply Kd.R_alloc | apply Kd.R_drewN | apply Kd.R_drew)); exact Kd.R_mono HO_4.out (fun _ hk => ⟨⟨hk.1.1, ⟨hk.1.2.2, hk.2⟩⟩, hk.1.2.1⟩)) hg hat); have n1_ := Aside0.mk (Kd.R_after (ok := (fun k_ => some k_ ≠ (.slice Ao26 t2375.length co26 : Value).ownBlock ∧ some k_ ≠ (.slice (some ad2387) t2384.length co10 : Value).ownBlock ∧ k_ ≠ gb2388)) (by (with_reducible repeat (first | apply Kd.R_alloc | apply Kd.R_drewN | apply Kd.R_drew)); exact Kd.R_mono HO_5.out (fun _ hk => ⟨⟨hk.1.1, ⟨hk.1.2.2, hk.2⟩⟩, hk.1.2.1⟩)) hg hat); have n2_ := Aside0.mk (Kd.R_after (ok := (fun k_ => some k_ ≠ (.slice Ao26 t2375.length co26 : Value).ownBlock ∧ some k_ ≠ (u5 : Value).ownBlock ∧ k_ ≠ gb2388)) (by (with_reducible repeat (first | apply Kd.R_alloc | apply Kd.R_drewN | apply Kd.R_drew)); exact Kd.R_mono HO_14.out (fun _ hk => ⟨⟨hk.1.1, ⟨hk.1.2.1, hk.2⟩⟩, hk.1.2.2⟩)) hg hat); have n3_ := Aside0.mk (blk_grown (g := gb2388) (o := .cells #[.int .i64 ((rd_T26 t2384 x16_1).f0), .int .i64 ((rd_T26 t2384 x16_1).f1)] 26 (0, 0)) zk hg (Kd.R_away HO_6.out (fun _ hk => hk.2))); have n4_ := Aside0.mk (hb); have n5_ := Aside0.mk (ho); clear HO_4; clear HO_5; clear HO_14; clear BK2388; clear HB; clear HO_6; have HO_4 := n0_; have HO_5 := n1_; have HO_14 := n2_; have BK2388 := n3_; have HB := n4_; have HO2395 := n5_; clear n0_ n1_ n2_ n3_ n4_ n5_; clear ho hb hg hat))
        go_roundg k1
        case measure => have := HK1.out; omega
        case rel => exact ⟨(x5_1), (y2393), (wrap64 (x16_1 + 1)), (by first | rfl | (simp; done) | (simp [*]; done)), H', ⟨by have := HK1.out; omega⟩, ⟨by (with_reducible repeat (first | apply Kd.R_alloc | apply Kd.R_drewN | apply Kd.R_drew)); exact Kd.R_mono HO_4.out (fun _ hk => ⟨hk.1.1, ⟨hk.2, hk.1.2.1⟩⟩)⟩, ⟨by (with_reducible repeat (first | apply Kd.R_alloc | apply Kd.R_drewN | apply Kd.R_drew)); exact Kd.R_mono HO_5.out (fun _ hk => ⟨hk.1.1, ⟨hk.2, hk.1.2.1⟩⟩)⟩, ⟨by (with_reducible repeat (first | apply Kd.R_alloc | apply Kd.R_drewN | apply Kd.R_drew)); exact Kd.R_mono HO2395.out (fun _ hk => ⟨hk.1, ⟨hk.2.1, hk.2.2.1⟩⟩)⟩, ⟨by (with_reducible repeat (first | apply Kd.R_alloc | apply Kd.R_drewN | apply Kd.R_drew)); exact Kd.R_mono HO_14.out (fun _ hk => ⟨hk.1.1, ⟨hk.1.2.1, hk.2⟩⟩)⟩, ⟨zb⟩⟩
       ·rw [if_neg c23] at H
        exact absurd H (by simp)
     ·rw [if_neg c13] at H
      exact absurd H (by simp)
    ·rw [if_neg c12] at H
     exact absurd H (by simp)
   ·rw [if_neg c11] at H
    have c11b0 : decide (x16_1 < (t2384.length : Int)) = false := decide_eq_false c11
    clear c11
    simp only [Option.some.injEq, Prod.mk.injEq] at H
    obtain ⟨rfl, rfl⟩ := H
    go_wp2
    go_ret2
    exact ⟨_, _, by first | rfl | (simp [errW_none, errW_some] <;> rfl) | (simp [*, errW_none, errW_some] <;> rfl), by (with_reducible repeat (first | apply Kd.R_alloc | apply Kd.R_drewN | apply Kd.R_drew)); exact Kd.R_mono HO_5.out (fun _ hk => hk.2.1), by (with_reducible repeat (first | apply Kd.R_alloc | apply Kd.R_drewN | apply Kd.R_drew)); exact Kd.R_mono HO_6.out (fun _ hk => hk.2.1), zb⟩
def impl_LayersOf.l0 : Nat → List (S26) → List (List (S26)) → Option ((List (List (S26))) × Bool)
 | 0, _, _ => none
 | k + 1, x0, x4 => if (x0.length : Int) > 0 then ((impl_onBand.f k x0).bind fun bt2400 => (if x4.length < 5864062014805 then (impl_LayersOf.l0 k bt2400.2 (x4 ++ [bt2400.1])) else (none))) else (some (x4, true))
def impl_LayersOf.f (k : Nat) (l0 : List (S26)) : Option ((List (List (S26))) × Bool) := (impl_AreDifferent.f k l0).bind fun t2396 => (if t2396 = true then (impl_LayersOf.l0 k l0 (([] : List (List (S26))))) else (some (([] : List (List (S26))), false)))
set_option maxHeartbeats 8000000 in
set_option maxRecDepth 100000 in
theorem impl_LayersOf.calls (k : Nat) (P0_ : Nat → Prop) (A0 : Option Addr) (c0 : Nat) (l0 : List (S26)) (r1 : List (List (S26))) (r2 : Bool) (w : World) (hs0 : Kd.V k26 26 w w.heap.size (fun k_ => P0_ k_) (.slice A0 l0.length c0) l0) (h : impl_LayersOf.f k l0 = some (r1, r2)) :
  Calls Try.prog 125 #[.slice A0 l0.length c0] w fun e w' => ∃ v0_ : Value, e = .returned (.tuple #[v0_, .bool r2]) ∧ Kd.S (Kd.slice 26 k26) 24 w' w.heap.size (fun k_ => (w.heap.size ≤ k_)) v0_ r1 ∧ Below w.heap.size w w' := by
 have HO0 := Aside0.mk (show Kd.V k26 26 w w.heap.size (fun k_ => (P0_ k_ ∨ w.heap.size ≤ k_)) (.slice A0 l0.length c0) l0 from Kd.V_mono hs0 (fun k_ hk => .inl hk))
 have HB := Aside0.mk (Below.refl w.heap.size w)
 have H : ((impl_AreDifferent.f k l0).bind fun t2396 => (if t2396 = true then (impl_LayersOf.l0 k l0 (([] : List (List (S26))))) else (some (([] : List (List (S26))), false)))) = some (r1, r2) := h
 clear h
 replace H := Option.bind_eq_some_iff.mp H
 obtain ⟨t2396, A20, H⟩ := H
 replace H : (if t2396 = true then (impl_LayersOf.l0 k l0 (([] : List (List (S26))))) else (some (([] : List (List (S26))), false))) = some (r1, r2) := H
 have A2 := Aside0.mk A20
 clear A20
 by_cases c3 : t2396 = true
 ·subst c3
  have H1 : (impl_LayersOf.l0 k l0 (([] : List (List (S26))))) = some (r1, r2) := by rw [if_pos rfl] at H; exact H
  clear H
  have H := H1
  clear H1
  obtain ⟨y2397, hy2397⟩ : ∃ y_ : List (List (S26)), y_ = (([] : List (List (S26)))) := ⟨_, rfl⟩
  replace H : (impl_LayersOf.l0 k l0 y2397) = some (r1, r2) := by first | (rw [hy2397]; with_reducible exact H) | (have H2_ := (Option.bind_some _ _).symm.trans H; rw [hy2397]; with_reducible exact H2_) | (have H2_ := (Option.bind_some _ _).symm.trans H; with_reducible exact H2_) | with_reducible exact H | (rw [hy2397]; exact H) | exact H
  have Ny2397 := Aside0.mk hy2397
  clear hy2397
  have H' := Aside0.mk H
  clear H
  go_enter Try.func125, Try.ntmps125
  go_wp2_with (first | ((with_reducible refine gate_callee (f := 213) rfl ?_); refine goesL_ (some 8) rfl rfl Try.func213 (by kernel_rfl) rfl #[.slice A0 l0.length c0] rfl zn ?_; (with_reducible refine (impl_AreDifferent.calls k _ _ l0 true _ ?side1 ?side2 A2.out).mono ?_); (case side1 => repeat (first | exact (Kd.V_reads' HO0.out).2.2 | (with_reducible refine Kd.C_alloc ?_ _) | (with_reducible refine Kd.C_drewN ?_ _) | (with_reducible refine Kd.C_drew ?_))); (case side2 => exact (Kd.V_reads' HO0.out).2.1); rintro e w4 ⟨rfl, hb⟩; refine ⟨_, rfl, ?_⟩; have n0_ := Aside0.mk (Kd.V_below (by (with_reducible repeat (first | apply Kd.V_alloc | apply Kd.V_drewN | apply Kd.V_drew)); exact HO0.out) hb); have n1_ := Aside0.mk (below_step zb hb); clear HO0; clear HB; have HO0 := n0_; have HB := n1_; clear n0_ n1_; (try clear hb); (try clear hb2); (try clear hk); (try clear hi)) | ((with_reducible refine gate_dst (N := 10) rfl ?_); refine Kd.S_lit (Kd.slice 26 k26) _ 24 ?hg (N := 10) ?hd (xs := ([] : List (List (S26)))) (inner := []) (ok := fun _ => True) (okp := fun _ => True) ?hr ?hp (fun _ hk => hk) trivial (Below.refl _ _) (Nat.le_refl _) (by simp) ?_; (case hd => rfl); (case hg => rfl); (case hr => first | (go_simp; done) | (go_simp; rfl)); (case hp => exact (Reps.none _ _)); intro v2398 w5 ho6 hb hg_ hnew_; clear hg_ hnew_; (first | rw [← Ny2397.out] at ho6 | (simp only [Int.reduceToNat] at ho6; rw [← Ny2397.out] at ho6)); have n0_ := Aside0.mk (Kd.V_elder' (by (with_reducible repeat (first | apply Kd.V_alloc | apply Kd.V_drewN | apply Kd.V_drew)); exact HO0.out) (Kd.S_base ho6) hb); have n1_ := Aside0.mk (Kd.S_lower (Kd.S_newM (M := fun k_ => (w.heap.size ≤ k_)) ho6 (below_size zb) (fun k_ h_ => h_)) (below_size zb)); have n2_ := Aside0.mk (below_step zb hb); clear HO0; clear HB; have HO0 := n0_; have HO2399 := n1_; have HB := n2_; clear n0_ n1_ n2_; clear hb ho6))
  go_loopg [0, 4] k (fun kq v0 v4 w' => ∃ (x0_1 : List (S26)) (x4_1 : List (List (S26))), Aside0 (impl_LayersOf.l0 kq x0_1 x4_1 = some (r1, r2)) ∧ Aside0 (kq ≤ k) ∧ Aside0 (Kd.V k26 26 w' w.heap.size (fun k_ => (P0_ k_ ∨ w.heap.size ≤ k_) ∧ some k_ ≠ (v4 : Value).ownBlock) v0 x0_1) ∧ Aside0 (Kd.S (Kd.slice 26 k26) 24 w' w.heap.size (fun k_ => (w.heap.size ≤ k_)) v4 x4_1) ∧ Aside0 (Below w.heap.size w w'))
  case atStart => exact ⟨(l0), (y2397), H', ⟨Nat.le_refl _⟩, ⟨by (with_reducible repeat (first | apply Kd.V_alloc | apply Kd.V_drewN | apply Kd.V_drew)); exact HO0.out⟩, ⟨by (with_reducible repeat (first | apply Kd.S_alloc | apply Kd.S_drewN | apply Kd.S_drew)); exact Kd.S_mono HO2399.out (fun _ hk => hk.1)⟩, ⟨zb⟩⟩
  case round =>
   clear H'
   try clear c1
   try clear c2
   try clear p2
   try clear c3
   obtain ⟨x0_1, x4_1, HA, HK1, HO_0, HO_4, HB⟩ := hrel
   cases gk with
   | zero => exact absurd HA.out (by simp [impl_LayersOf.l0])
   | succ k1 =>
    have H := HA.out
    clear HA
    simp only [impl_LayersOf.l0] at H
    by_cases c7 : (x0_1.length : Int) > 0
    ·rw [if_pos c7] at H
     have c7b0 : decide (0 < (x0_1.length : Int)) = true := decide_eq_true c7
     have c7b1 : decide (0 < x0_1.length) = true := decide_eq_true (by omega)
     clear c7
     replace H := Option.bind_eq_some_iff.mp H
     obtain ⟨⟨t2400, t2401⟩, A80, H⟩ := H
     replace H : (if x4_1.length < 5864062014805 then (impl_LayersOf.l0 k1 t2401 (x4_1 ++ [t2400])) else (none)) = some (r1, r2) := H
     have A8 := Aside0.mk A80
     clear A80
     by_cases c9 : x4_1.length < 5864062014805
     ·rw [if_pos c9] at H
      have LMc9 := Aside0.mk c9
      clear c9
      obtain ⟨y2406, hy2406⟩ : ∃ y_ : List (List (S26)), y_ = (x4_1 ++ [t2400]) := ⟨_, rfl⟩
      replace H : (impl_LayersOf.l0 k1 t2401 y2406) = some (r1, r2) := by first | (rw [hy2406]; with_reducible exact H) | (have H2_ := (Option.bind_some _ _).symm.trans H; rw [hy2406]; with_reducible exact H2_) | (have H2_ := (Option.bind_some _ _).symm.trans H; with_reducible exact H2_) | with_reducible exact H | (rw [hy2406]; exact H) | exact H
      have Ny2406 := Aside0.mk hy2406
      clear hy2406
      have H' := Aside0.mk H
      clear H
      obtain ⟨Ao10, co10, eo10⟩ := Kd.V_slice HO_0.out
      subst eo10
      go_wp2_with (first | ((with_reducible refine gate_callee (f := 224) rfl ?_); refine goesL_ (some 16) rfl rfl Try.func224 (by kernel_rfl) rfl #[.slice Ao10 x0_1.length co10] rfl zn ?_; (with_reducible refine (impl_onBand.calls k1 _ _ x0_1 t2400 t2401 _ ?side1 ?side2 A8.out).mono ?_); (case side1 => repeat (first | exact (Kd.V_reads' HO_0.out).2.2 | (with_reducible refine Kd.C_alloc ?_ _) | (with_reducible refine Kd.C_drewN ?_ _) | (with_reducible refine Kd.C_drew ?_))); (case side2 => exact (Kd.V_reads' HO_0.out).2.1); rintro e w11 ⟨v2402, v2404, rfl, ho0, ho1, hb⟩; refine ⟨_, rfl, ?_⟩; have n0_ := Aside0.mk (Kd.V_mono (Kd.V_told (Kd.V_told (Kd.V_old (by (with_reducible repeat (first | apply Kd.V_alloc | apply Kd.V_drewN | apply Kd.V_drew)); exact HO_0.out) hb) (Kd.R_base ho0)) (Kd.R_base ho1)) (fun _ h_ => h_.1)); have n1_ := Aside0.mk (Kd.S_mono (Kd.S_told (Kd.S_told (Kd.S_old (by (with_reducible repeat (first | apply Kd.S_alloc | apply Kd.S_drewN | apply Kd.S_drew)); exact HO_4.out) hb) (Kd.R_base ho0)) (Kd.R_base ho1)) (fun _ h_ => h_.1)); have n2_ := Aside0.mk (Kd.R_lower (Kd.R_newM (M := fun k_ => (w.heap.size ≤ k_)) ho0 (below_size zb) (fun k_ h_ => h_)) (below_size zb)); have n3_ := Aside0.mk (Kd.R_lower (Kd.R_newM (M := fun k_ => (w.heap.size ≤ k_)) ho1 (below_size zb) (fun k_ h_ => h_)) (below_size zb)); have n4_ := Aside0.mk (below_step zb hb); clear HO_0; clear HO_4; clear HB; have HO_0 := n0_; have HO_4 := n1_; have HO2403 := n2_; have HO2405 := n3_; have HB := n4_; clear n0_ n1_ n2_ n3_ n4_; (try clear hb); (try clear hb2); (try clear hk); (try clear hi); (try clear ho0); (try clear ho1); obtain ⟨Ao13, co13, eo13⟩ := Kd.R_slice HO2403.out; subst eo13) | ((with_reducible refine gate_builtin (b := .append) (xs := #[.tmp 19, .tmp 21]) rfl ?_); at_builtin; refine Kd.S_append (Kd.slice 26 k26) (w0 := w) w.heap.size rfl (.tmp 19) (.tmp 21) 38 24 (.slice none 0 0) 24 rfl Try.underlying38 info24 rfl (by decide) (by omega) u4 x4_1 t2400 [.slice Ao13 t2400.length co13] (fun k_ => (w.heap.size ≤ k_) ∧ some k_ ≠ (v2404 : Value).ownBlock) (fun k_ => some k_ = (.slice Ao13 t2400.length co13 : Value).ownBlock) rfl rfl ?aP (fun k_ hk_ => ((Kd.R_mono (ok' := fun k_ => ((fun k_ => (w.heap.size ≤ k_) ∧ some k_ ≠ (v2404 : Value).ownBlock)) k_ ∧ some k_ ≠ (u4 : Value).ownBlock) (Kd.R_apart' (HO2403.out) (Kd.S_typed HO_4.out) (by decide)) (fun k_ hk => ⟨⟨hk.1.1, hk.1.2⟩, hk.2⟩))).1 k_ hk_.symm) ?aF ?aO ?aB ?aS ?aL ?_; (case aP => exact Kd.M_row (Kd.R_mono (Kd.R_tight rfl (Kd.R_mono (ok' := fun k_ => ((fun k_ => (w.heap.size ≤ k_) ∧ some k_ ≠ (v2404 : Value).ownBlock)) k_ ∧ some k_ ≠ (u4 : Value).ownBlock) (Kd.R_apart' (HO2403.out) (Kd.S_typed HO_4.out) (by decide)) (fun k_ hk => ⟨⟨hk.1.1, hk.1.2⟩, hk.2⟩))) (fun _ h_ => h_))); (case aB => exact zb); (case aF => exact (fun k_ hk => ⟨(Nat.le_trans (below_size zb) hk), Kd.fresh' (Kd.R_lt (by (with_reducible repeat (first | apply Kd.R_alloc | apply Kd.R_drewN | apply Kd.R_drew)); exact HO2405.out)) k_ hk⟩)); (case aO => exact (by (with_reducible repeat (first | apply Kd.S_alloc | apply Kd.S_drewN | apply Kd.S_drew)); exact Kd.S_mono HO_4.out (fun k_ hk => ⟨⟨hk.1.1, hk.2⟩, fun e_ => hk.1.2 e_⟩))); (case aS => exact (below_size zb)); (case aL => have := LMc9.out; omega); intro v2407 w12 ho hb hg hat; rw [← Ny2406.out] at ho; have n0_ := Aside0.mk (Kd.V_afterv (ok := (fun k_ => (P0_ k_ ∨ w.heap.size ≤ k_) ∧ some k_ ≠ (.slice Ao13 t2400.length co13 : Value).ownBlock ∧ some k_ ≠ (v2404 : Value).ownBlock)) (by (with_reducible repeat (first | apply Kd.V_alloc | apply Kd.V_drewN | apply Kd.V_drew)); exact Kd.V_mono HO_0.out (fun _ hk => ⟨⟨hk.1.1.1, ⟨hk.1.2, hk.2⟩⟩, hk.1.1.2⟩)) hg hat); have n1_ := Aside0.mk (Kd.R_over' (by (with_reducible repeat (first | apply Kd.R_alloc | apply Kd.R_drewN | apply Kd.R_drew)); exact HO2405.out) (Kd.S_typed (by (with_reducible repeat (first | apply Kd.S_alloc | apply Kd.S_drewN | apply Kd.S_drew)); exact HO_4.out)) (by decide) hg); have n2_ := Aside0.mk (hb); have n3_ := Aside0.mk (ho); clear HO_0; clear HO2405; clear HB; clear HO_4; clear HO2403; have HO_0 := n0_; have HO2405 := n1_; have HB := n2_; have HO2408 := n3_; clear n0_ n1_ n2_ n3_; clear ho hb hg hat))
      go_roundg k1
      case measure => have := HK1.out; omega
      case rel => exact ⟨(t2401), (y2406), H', ⟨by have := HK1.out; omega⟩, ⟨Kd.V_mono (Kd.R_V (by (with_reducible repeat (first | apply Kd.R_alloc | apply Kd.R_drewN | apply Kd.R_drew)); exact Kd.R_apart' HO2405.out (Kd.S_typed HO2408.out) (by decide))) (fun k_ hk => by first | exact ⟨(.inr hk.1.1), hk.2⟩ | exact ⟨(.inr (hk.1)), hk.2⟩ | exact (.inr (hk)))⟩, ⟨by (with_reducible repeat (first | apply Kd.S_alloc | apply Kd.S_drewN | apply Kd.S_drew)); exact Kd.S_mono HO2408.out (fun _ hk => hk.1)⟩, ⟨zb⟩⟩
     ·rw [if_neg c9] at H
      exact absurd H (by simp)
    ·rw [if_neg c7] at H
     have c7b0 : decide (0 < (x0_1.length : Int)) = false := decide_eq_false c7
     have c7b1 : decide (0 < x0_1.length) = false := decide_eq_false (by omega)
     clear c7
     simp only [Option.some.injEq, Prod.mk.injEq] at H
     obtain ⟨rfl, rfl⟩ := H
     obtain ⟨Ao14, co14, eo14⟩ := Kd.V_slice HO_0.out
     subst eo14
     go_wp2
     go_ret2
     exact ⟨_, by first | rfl | (simp [errW_none, errW_some] <;> rfl) | (simp [*, errW_none, errW_some] <;> rfl), by (with_reducible repeat (first | apply Kd.S_alloc | apply Kd.S_drewN | apply Kd.S_drew)); exact HO_4.out, zb⟩
 ·replace c3 := Bool.eq_false_iff.mpr c3
  subst c3
  have H1 : (some (([] : List (List (S26))), false)) = some (r1, r2) := by rw [if_neg (show ¬ (false = true) by decide)] at H; exact H
  clear H
  have H := H1
  clear H1
  simp only [Option.some.injEq, Prod.mk.injEq] at H
  obtain ⟨rfl, rfl⟩ := H
  go_enter Try.func125, Try.ntmps125
  go_wp2_with (first | ((with_reducible refine gate_callee (f := 213) rfl ?_); refine goesL_ (some 8) rfl rfl Try.func213 (by kernel_rfl) rfl #[.slice A0 l0.length c0] rfl zn ?_; (with_reducible refine (impl_AreDifferent.calls k _ _ l0 false _ ?side1 ?side2 A2.out).mono ?_); (case side1 => repeat (first | exact (Kd.V_reads' HO0.out).2.2 | (with_reducible refine Kd.C_alloc ?_ _) | (with_reducible refine Kd.C_drewN ?_ _) | (with_reducible refine Kd.C_drew ?_))); (case side2 => exact (Kd.V_reads' HO0.out).2.1); rintro e w15 ⟨rfl, hb⟩; refine ⟨_, rfl, ?_⟩; have n0_ := Aside0.mk (Kd.V_below (by (with_reducible repeat (first | apply Kd.V_alloc | apply Kd.V_drewN | apply Kd.V_drew)); exact HO0.out) hb); have n1_ := Aside0.mk (below_step zb hb); clear HO0; clear HB; have HO0 := n0_; have HB := n1_; clear n0_ n1_; (try clear hb); (try clear hb2); (try clear hk); (try clear hi)))
  go_ret2
  exact ⟨_, by first | rfl | (simp [errW_none, errW_some] <;> rfl) | (simp [*, errW_none, errW_some] <;> rfl), by first | exact Kd.S_nil _ _ _ _ _ | exact Kd.N_nil _ _ _ _ _ | exact Kd.V_nil _ _ _ _ _ | exact Kd.Q_nil _ _ _ _ _ | exact Kd.R_nil _ _ _ _ _, zb⟩
def laws_heldPegSS.l0 : Nat → List (List (S26)) → Int → Int → Option (Int)
 | 0, _, _, _ => none
 | k + 1, x0, x1, x5 => if x5 < (x0.length : Int) then (if 0 ≤ x5 then ((laws_heldPegS.f k (rd_L3 x0 x5) x1).bind fun t2411 => (if t2411 < 0 then (some (-1)) else (laws_heldPegSS.l0 k x0 t2411 (wrap64 (x5 + 1))))) else (none)) else (some x1)
def laws_heldPegSS.f (k : Nat) (l0 : List (List (S26))) (a1 : Int) : Option (Int) := laws_heldPegSS.l0 k l0 a1 0
set_option maxHeartbeats 8000000 in
set_option maxRecDepth 100000 in
theorem laws_heldPegSS.calls (k : Nat) (A0 : Option Addr) (c0 : Nat) (l0 : List (List (S26))) (a1 : Int) (r : Int) (w : World) (hr0 : Kd.C (Kd.slice 26 k26) w A0 l0.length l0) (hc0 : l0.length ≤ c0) (h : laws_heldPegSS.f k l0 a1 = some r) :
  Calls Try.prog 127 #[.slice A0 l0.length c0, .int .i64 a1] w fun e w' => e = .returned (.int .i64 r) ∧ Drawn0 w w' := by
 have HR0 := Aside0.mk hr0
 have HC0 := Aside0.mk hc0
 clear hr0 hc0
 have H : (laws_heldPegSS.l0 k l0 a1 0) = some r := h
 clear h
 have H' := Aside0.mk H
 clear H
 go_enter Try.func127, Try.ntmps127
 go_wp2
 go_loopg [1, 5] k (fun kq v1 v5 w' => ∃ (x1_1 : Int) (x5_1 : Int), v1 = .int .i64 x1_1 ∧ v5 = .int .i64 x5_1 ∧ Aside0 (laws_heldPegSS.l0 kq l0 x1_1 x5_1 = some r) ∧ Aside0 (kq ≤ k) ∧ Drawn0 w w')
 case atStart => exact ⟨(a1), (0), (by first | rfl | (simp; done) | (simp [*]; done)), (by first | rfl | (simp; done) | (simp [*]; done)), H', ⟨Nat.le_refl _⟩, by repeat (first | exact Drawn0.refl _ | apply Drawn0.step)⟩
 case round =>
  clear H'
  try clear c1
  try clear p2
  obtain ⟨x1_1, x5_1, rfl, rfl, HA, HK1, ⟨m1, rfl⟩⟩ := hrel
  cases gk with
  | zero => exact absurd HA.out (by simp [laws_heldPegSS.l0])
  | succ k1 =>
   have H := HA.out
   clear HA
   simp only [laws_heldPegSS.l0] at H
   by_cases c3 : x5_1 < (l0.length : Int)
   ·rw [if_pos c3] at H
    have c3b0 : decide (x5_1 < (l0.length : Int)) = true := decide_eq_true c3
    clear c3
    by_cases c4 : 0 ≤ x5_1
    ·rw [if_pos c4] at H
     have c4b0 : decide (0 ≤ x5_1) = true := decide_eq_true c4
     clear c4
     replace H := Option.bind_eq_some_iff.mp H
     obtain ⟨t2411, A50, H⟩ := H
     replace H : (if t2411 < 0 then (some (-1)) else (laws_heldPegSS.l0 k1 l0 t2411 (wrap64 (x5_1 + 1)))) = some r := H
     have A5 := Aside0.mk A50
     clear A50
     by_cases c6 : t2411 < 0
     ·rw [if_pos c6] at H
      have c6b0 : decide (t2411 < 0) = true := decide_eq_true c6
      clear c6
      obtain rfl := Option.some.inj H
      have p2410 : 0 ≤ (x5_1 : Int) := of_decide_eq_true (by first | (with_reducible assumption) | assumption)
      have q2410 : x5_1 < (l0.length : Int) := of_decide_eq_true (by first | (with_reducible assumption) | assumption)
      obtain ⟨ad2410, A2410_0, c2410_0, e2410, hx2410_0, hl2410_0, hi2410_0⟩ := at_L3 HR0.out x5_1 p2410 q2410
      cases e2410
      have HR2410_0 := Aside0.mk hi2410_0
      have HC2410_0 := Aside0.mk hl2410_0
      clear hi2410_0 hl2410_0
      replace p2410 := eq_true p2410
      replace q2410 := eq_true q2410
      go_wp2_with (first | ((with_reducible refine gate_callee (f := 119) rfl ?_); refine goesL_ (some 17) rfl rfl Try.func119 (by kernel_rfl) rfl #[.slice A2410_0 (rd_L3 l0 x5_1).length c2410_0, .int .i64 x1_1] rfl zn ?_; (with_reducible refine (laws_heldPegS.calls k1 _ _ (rd_L3 l0 x5_1) x1_1 t2411 _ ?side1 ?side2 A5.out).mono ?_); (case side1 => repeat (first | exact HR2410_0.out | (with_reducible refine Kd.C_alloc ?_ _) | (with_reducible refine Kd.C_drewN ?_ _) | (with_reducible refine Kd.C_drew ?_))); (case side2 => exact HC2410_0.out); rintro e w' ⟨rfl, ⟨nd, rfl⟩⟩; refine ⟨_, rfl, ?_⟩))
      go_ret
      exact ⟨by first | rfl | (simp; done) | (simp [*]; done), by repeat (first | exact Drawn0.refl _ | apply Drawn0.step)⟩
     ·rw [if_neg c6] at H
      have c6b0 : decide (t2411 < 0) = false := decide_eq_false c6
      clear c6
      have H' := Aside0.mk H
      clear H
      have p2410 : 0 ≤ (x5_1 : Int) := of_decide_eq_true (by first | (with_reducible assumption) | assumption)
      have q2410 : x5_1 < (l0.length : Int) := of_decide_eq_true (by first | (with_reducible assumption) | assumption)
      obtain ⟨ad2410, A2410_0, c2410_0, e2410, hx2410_0, hl2410_0, hi2410_0⟩ := at_L3 HR0.out x5_1 p2410 q2410
      cases e2410
      have HR2410_0 := Aside0.mk hi2410_0
      have HC2410_0 := Aside0.mk hl2410_0
      clear hi2410_0 hl2410_0
      replace p2410 := eq_true p2410
      replace q2410 := eq_true q2410
      go_wp2_with (first | ((with_reducible refine gate_callee (f := 119) rfl ?_); refine goesL_ (some 17) rfl rfl Try.func119 (by kernel_rfl) rfl #[.slice A2410_0 (rd_L3 l0 x5_1).length c2410_0, .int .i64 x1_1] rfl zn ?_; (with_reducible refine (laws_heldPegS.calls k1 _ _ (rd_L3 l0 x5_1) x1_1 t2411 _ ?side1 ?side2 A5.out).mono ?_); (case side1 => repeat (first | exact HR2410_0.out | (with_reducible refine Kd.C_alloc ?_ _) | (with_reducible refine Kd.C_drewN ?_ _) | (with_reducible refine Kd.C_drew ?_))); (case side2 => exact HC2410_0.out); rintro e w' ⟨rfl, ⟨nd, rfl⟩⟩; refine ⟨_, rfl, ?_⟩))
      go_roundg k1
      case measure => have := HK1.out; omega
      case rel => exact ⟨(t2411), (wrap64 (x5_1 + 1)), (by first | rfl | (simp; done) | (simp [*]; done)), (by first | rfl | (simp; done) | (simp [*]; done)), H', ⟨by have := HK1.out; omega⟩, by repeat (first | exact Drawn0.refl _ | apply Drawn0.step)⟩
    ·rw [if_neg c4] at H
     exact absurd H (by simp)
   ·rw [if_neg c3] at H
    have c3b0 : decide (x5_1 < (l0.length : Int)) = false := decide_eq_false c3
    clear c3
    obtain rfl := Option.some.inj H
    go_wp2
    go_ret
    exact ⟨by first | rfl | (simp; done) | (simp [*]; done), by repeat (first | exact Drawn0.refl _ | apply Drawn0.step)⟩
end Go.Proofs.Ytphpdfcblchpnaa.Q
namespace Go.Proofs.Ytphpdfcblchpnaa.D
open Go.RowKit Go.Proofs.Ytphpdfcblchpnaa.Q Go.Proofs.YtphpdfcblchpnaaW.PrintWords Go.Proofs.YtphpdfcblchpnaaW.PrintLast Go.Proofs.YtphpdfcblchpnaaW.PrintMore
open Go.Proofs.Ytphpdfcblchpnaa.M
def mkRow (n : Nat) (a : Int) : List S26 := (List.range n).map fun i : Nat => ⟨a + 2 * (i : Int), a + 2 * (i : Int) + 1⟩
theorem mkRow_len (n : Nat) (a : Int) : (mkRow n a).length = n := by simp [mkRow]
theorem mkRow_get (n : Nat) (a : Int) (i : Nat) (h : i < (mkRow n a).length) : (mkRow n a)[i] = ⟨a + 2 * (i : Int), a + 2 * (i : Int) + 1⟩ := by simp [mkRow]
theorem mkRow_succ (n : Nat) (a : Int) : mkRow (n + 1) a = mkRow n a ++ [⟨a + 2 * (n : Int), a + 2 * (n : Int) + 1⟩] := by
  unfold mkRow
  rw [List.range_succ, List.map_append]
  rfl
theorem mark_ev (l : List S26) (a : Int) (ha : 0 ≤ a) (hb : a ≤ 1000000000) (hl : l.length ≤ 10000000) : Ev (fun k => laws_markPegS.f k l a) (a + 2 * (l.length : Int), mkRow l.length a) := by
  have key : ∀ i, i ≤ l.length → Ev (fun k => laws_markPegS.l0 k (mkRow i a ++ l.drop i) (a + 2 * (i : Int)) (i : Int)) (a + 2 * (l.length : Int), mkRow l.length a) := by
    refine loop_ev (L := fun k i => laws_markPegS.l0 k (mkRow i a ++ l.drop i) (a + 2 * (i : Int)) (i : Int)) (r := fun _ => (a + 2 * (l.length : Int), mkRow l.length a)) ?_ ?_
    · rw [List.drop_length, List.append_nil]
      refine Ev.step (f := fun _ => some (a + 2 * (l.length : Int), mkRow l.length a)) (fun k => ?_) (Ev.now _)
      simp only [laws_markPegS.l0]
      rw [mkRow_len, if_neg (by omega)]
    · intro i hi ih
      have hml := mkRow_len i a
      have hd : l.drop i = l[i] :: l.drop (i + 1) := List.drop_eq_getElem_cons hi
      have set1 : ∀ x : S26, (mkRow i a ++ l.drop i).set i x = mkRow i a ++ x :: l.drop (i + 1) := fun x => by
        rw [List.set_append_right _ _ (by omega), hml, Nat.sub_self, hd]
        rfl
      have set2 : ∀ x y : S26, (mkRow i a ++ y :: l.drop (i + 1)).set i x = mkRow i a ++ x :: l.drop (i + 1) := fun x y => by
        rw [List.set_append_right _ _ (by omega), hml, Nat.sub_self]
        rfl
      have rd2 : ∀ y : S26, rd_T26 (mkRow i a ++ y :: l.drop (i + 1)) (i : Int) = y := fun y => by
        rw [rd_getElem _ i (by rw [List.length_append, hml]; simp)]
        rw [List.getElem_append_right (by omega)]
        simp [hml]
      have w1 : wrap64 (a + 2 * (i : Int) + 1) = a + 2 * (i : Int) + 1 := w64 (by omega) (by omega)
      have w2 : wrap64 (a + 2 * (i : Int) + 1 + 1) = a + 2 * ((i + 1 : Nat) : Int) := by rw [w64 (by omega) (by omega)]; omega
      refine Ev.step (fun k => ?_) ih
      simp only [laws_markPegS.l0]
      rw [if_pos (by rw [List.length_append, hml, List.length_drop]; omega), if_pos (by omega)]
      simp only [Option.bind_some, Int.toNat_natCast, set1, set2, rd2, w1, w2, cast_succ i (show i ≤ 100000000 by omega)]
      rw [mkRow_succ, List.append_assoc]
      rfl
  have := key 0 (Nat.zero_le _)
  refine Ev.congr (fun k => ?_) this
  unfold laws_markPegS.f
  simp [mkRow]
theorem held_ev (n : Nat) (a : Int) (ha : 0 ≤ a) (hb : a ≤ 1000000000) (hl : n ≤ 10000000) : Ev (fun k => laws_heldPegS.f k (mkRow n a) a) (a + 2 * (n : Int)) := by
  have hml := mkRow_len n a
  have key : ∀ i, i ≤ n → Ev (fun k => laws_heldPegS.l0 k (mkRow n a) (a + 2 * (i : Int)) (i : Int)) (a + 2 * (n : Int)) := by
    refine loop_ev (L := fun k i => laws_heldPegS.l0 k (mkRow n a) (a + 2 * (i : Int)) (i : Int)) (r := fun _ => a + 2 * (n : Int)) ?_ ?_
    · refine Ev.step (f := fun _ => some (a + 2 * (n : Int))) (fun k => ?_) (Ev.now _)
      simp only [laws_heldPegS.l0]
      rw [hml, if_neg (by omega)]
    · intro i hi ih
      have w1 : wrap64 (a + 2 * (i : Int) + 1) = a + 2 * (i : Int) + 1 := w64 (by omega) (by omega)
      have w2 : wrap64 (a + 2 * (i : Int) + 1 + 1) = a + 2 * ((i + 1 : Nat) : Int) := by rw [w64 (by omega) (by omega)]; omega
      refine Ev.step (fun k => ?_) ih
      simp only [laws_heldPegS.l0]
      rw [hml, if_pos (by omega), if_pos (by omega), rd_getElem _ i (by omega), mkRow_get]
      simp only [w1, w2, cast_succ i (show i ≤ 100000000 by omega), if_pos]
  have := key 0 (Nat.zero_le _)
  refine Ev.congr (fun k => ?_) this
  unfold laws_heldPegS.f
  simp
def mkAll : List (List S26) → Int → List (List S26)
  | [], _ => []
  | l :: r, a => mkRow l.length a :: mkAll r (a + 2 * (l.length : Int))
def sumAll : List (List S26) → Nat
  | [] => 0
  | l :: r => l.length + sumAll r
theorem mkAll_len : ∀ (r : List (List S26)) (a : Int), (mkAll r a).length = r.length
  | [], _ => rfl
  | l :: r, a => by simp [mkAll, mkAll_len r]
theorem sumAll_snoc : ∀ (r : List (List S26)) (l : List S26), sumAll (r ++ [l]) = sumAll r + l.length
  | [], l => by simp [sumAll]
  | m :: r, l => by
    simp only [List.cons_append, sumAll, sumAll_snoc r l]
    omega
theorem mkAll_snoc : ∀ (r : List (List S26)) (l : List S26) (a : Int), mkAll (r ++ [l]) a = mkAll r a ++ [mkRow l.length (a + 2 * (sumAll r : Int))]
  | [], l, a => by simp [mkAll, sumAll]
  | m :: r, l, a => by
    simp only [List.cons_append, mkAll, sumAll, mkAll_snoc r l]
    congr 4
    omega
theorem sumAll_take_le : ∀ (r : List (List S26)) (i : Nat), sumAll (r.take i) ≤ sumAll r
  | [], i => by simp [sumAll]
  | m :: r, 0 => by simp [sumAll]
  | m :: r, i + 1 => by
    simp only [List.take_succ_cons, sumAll]
    have := sumAll_take_le r i
    omega
theorem sumAll_le : ∀ (r : List (List S26)) (c : Nat), (∀ x ∈ r, x.length ≤ c) → sumAll r ≤ r.length * c
  | [], c, _ => by simp [sumAll]
  | m :: r, c, h => by
    have h1 := sumAll_le r c (fun x hx => h x (by simp [hx]))
    have h2 := h m (by simp)
    simp only [sumAll, List.length_cons, Nat.succ_mul]
    omega
theorem mkAll_step (r : List (List S26)) (a : Int) (i : Nat) (hi : i < r.length) :
    (mkAll (r.take i) a ++ r.drop i).getD i [] = r[i] ∧ (mkAll (r.take i) a ++ r.drop i).set i (mkRow (r[i]).length (a + 2 * (sumAll (r.take i) : Int))) = mkAll (r.take (i + 1)) a ++ r.drop (i + 1) ∧ sumAll (r.take (i + 1)) = sumAll (r.take i) + (r[i]).length := by
  have hl : (mkAll (r.take i) a).length = i := by rw [mkAll_len, List.length_take]; omega
  have hd : r.drop i = r[i] :: r.drop (i + 1) := List.drop_eq_getElem_cons hi
  refine ⟨?_, ?_, ?_⟩
  · rw [List.getD_eq_getElem?_getD, List.getElem?_append_right (by omega), hl, Nat.sub_self, hd]
    rfl
  · rw [List.set_append_right _ _ (by omega), hl, Nat.sub_self, hd, List.take_succ_eq_append_getElem hi, mkAll_snoc, List.append_assoc]
    rfl
  · rw [List.take_succ_eq_append_getElem hi, sumAll_snoc]
theorem rd_L3_getD (r : List (List S26)) (i : Nat) : rd_L3 r (i : Int) = r.getD i [] := by
  unfold rd_L3
  rw [Int.toNat_natCast]
theorem mkAll_getD (r : List (List S26)) (a : Int) (i : Nat) (hi : i < r.length) : (mkAll r a).getD i [] = mkRow (r[i]).length (a + 2 * (sumAll (r.take i) : Int)) := by
  have e : mkAll r a = mkAll (r.take i ++ r[i] :: r.drop (i + 1)) a := by rw [← List.drop_eq_getElem_cons hi, List.take_append_drop]
  have gen : ∀ (p : List (List S26)) (x : List S26) (q : List (List S26)) (a : Int), (mkAll (p ++ x :: q) a).getD p.length [] = mkRow x.length (a + 2 * (sumAll p : Int)) := by
    intro p
    induction p with
    | nil => intro x q a; simp [mkAll, sumAll]
    | cons m p ih =>
      intro x q a
      have := ih x q (a + 2 * (m.length : Int))
      simp only [List.cons_append, mkAll, sumAll, List.length_cons]
      rw [List.getD_cons_succ, this]
      congr 1
      omega
  have := gen (r.take i) r[i] (r.drop (i + 1)) a
  rw [← e, List.length_take, Nat.min_eq_left (by omega)] at this
  exact this
theorem heldSS_ev (r : List (List S26)) (a : Int) (ha : 0 ≤ a) (hs : a + 2 * (sumAll r : Int) ≤ 1000000) (hl : r.length ≤ 1000000) : Ev (fun k => laws_heldPegSS.f k (mkAll r a) a) (a + 2 * (sumAll r : Int)) := by
  have hml := mkAll_len r a
  have key : ∀ i, i ≤ r.length → Ev (fun k => laws_heldPegSS.l0 k (mkAll r a) (a + 2 * (sumAll (r.take i) : Int)) (i : Int)) (a + 2 * (sumAll r : Int)) := by
    refine loop_ev (L := fun k i => laws_heldPegSS.l0 k (mkAll r a) (a + 2 * (sumAll (r.take i) : Int)) (i : Int)) (r := fun _ => a + 2 * (sumAll r : Int)) ?_ ?_
    · refine Ev.step (f := fun _ => some (a + 2 * (sumAll r : Int))) (fun k => ?_) (Ev.now _)
      simp only [laws_heldPegSS.l0]
      rw [hml, if_neg (by omega), List.take_length]
    · intro i hi ih
      have st := (mkAll_step r a i hi).2.2
      have s1 := sumAll_take_le r i
      have s2 := sumAll_take_le r (i + 1)
      refine Ev.step (f := fun k => (laws_heldPegS.f k (mkRow (r[i]).length (a + 2 * (sumAll (r.take i) : Int))) (a + 2 * (sumAll (r.take i) : Int))).bind fun t2411 => (if t2411 < 0 then (some (-1)) else (laws_heldPegSS.l0 k (mkAll r a) t2411 ((i + 1 : Nat) : Int)))) (fun k => ?_) (Ev.bind (held_ev (r[i]).length (a + 2 * (sumAll (r.take i) : Int)) (by omega) (by omega) (by omega)) ?_)
      · simp only [laws_heldPegSS.l0]
        rw [hml, if_pos (by omega), if_pos (by omega), rd_L3_getD, mkAll_getD r a i hi, cast_succ i (by omega)]
      · refine Ev.congr (fun k => if_neg (by omega)) ?_
        have e : a + 2 * (sumAll (r.take i) : Int) + 2 * ((r[i]).length : Int) = a + 2 * (sumAll (r.take (i + 1)) : Int) := by omega
        rw [e]
        exact ih
  have := key 0 (Nat.zero_le _)
  refine Ev.congr (fun k => ?_) this
  unfold laws_heldPegSS.f
  simp [sumAll]
theorem eqSS_ev (r : List (List S26)) (hl : r.length ≤ 1000000) (hx : ∀ x ∈ r, x.length ≤ 1000000) : Ev (fun k => laws_eqPegSS.f k r r) true := by
  have key : ∀ i, i ≤ r.length → Ev (fun k => laws_eqPegSS.l0 k r r (i : Int)) true := by
    refine loop_ev (L := fun k i => laws_eqPegSS.l0 k r r (i : Int)) (r := fun _ => true) ?_ ?_
    · refine Ev.step (f := fun _ => some true) (fun k => ?_) (Ev.now _)
      simp only [laws_eqPegSS.l0]
      rw [if_neg (by omega)]
    · intro i hi ih
      have e : r.getD i [] = r[i] := by rw [List.getD_eq_getElem?_getD, List.getElem?_eq_getElem hi]; rfl
      refine Ev.step (f := fun k => (laws_eqPegS.f k r[i] r[i]).bind fun t => (if t = true then (laws_eqPegSS.l0 k r r ((i + 1 : Nat) : Int)) else (some false))) (fun k => ?_) (Ev.bind (eqPegS_ev r[i] (by have := hx _ (List.getElem_mem hi); omega)) (Ev.congr (fun k => if_pos rfl) ih))
      simp only [laws_eqPegSS.l0]
      rw [if_pos (by omega), if_pos (by omega), if_pos (by omega), rd_L3_getD, e, cast_succ i (by omega)]
  have := key 0 (Nat.zero_le _)
  refine Ev.congr (fun k => ?_) this
  unfold laws_eqPegSS.f
  rw [if_pos rfl]
  rfl
end Go.Proofs.Ytphpdfcblchpnaa.D
namespace Go.Proofs.Ytphpdfcblchpnaa.D
open Go.RowKit Go.Proofs.Ytphpdfcblchpnaa.Q Go.Proofs.YtphpdfcblchpnaaW.PrintWords Go.Proofs.YtphpdfcblchpnaaW.PrintLast Go.Proofs.YtphpdfcblchpnaaW.PrintMore
open Go.Proofs.Ytphpdfcblchpnaa.M Go.Proofs.YtphpdfcblchpnaaH
def nearL (l : List S26) : Prop := ∀ p ∈ l, isPeg (pg p)
theorem nearL.b3 {l : List S26} (h : nearL l) {p : S26} (hp : p ∈ l) : B3 (pg p) := B3_of_peg (h p hp)
theorem mem_getD {l : List S26} {i : Nat} (h : i < l.length) : l.getD i z26 ∈ l := by
  rw [List.getD_eq_getElem?_getD, List.getElem?_eq_getElem h]
  exact List.getElem_mem h
theorem turn_at {a b c : S26} (ha : B3 (pg a)) (hb : B3 (pg b)) (hc : B3 (pg c)) : impl_turn.f a.f0 a.f1 b.f0 b.f1 c.f0 c.f1 = some (turn (pg a) (pg b) (pg c)) := turn_eq ha hb hc
theorem pgTurn_at {a b c : S26} (ha : B3 (pg a)) (hb : B3 (pg b)) (hc : B3 (pg c)) : spec_pgTurn.f a.f0 a.f1 b.f0 b.f1 c.f0 c.f1 = some (turn (pg a) (pg b) (pg c)) := pgTurn_eq ha hb hc
theorem rd_getD (l : List S26) (i : Nat) : rd_T26 l (i : Int) = l.getD i z26 := by
  unfold rd_T26
  rw [Int.toNat_natCast]
def pop (p : S26) : Nat → List S26 → List S26
  | 0, out => out
  | n + 1, out => if 1 < out.length ∧ turn (pg (out.getD (out.length - 2) z26)) (pg (out.getD (out.length - 1) z26)) (pg p) ≤ 0 then pop p n (out.take (out.length - 1)) else out
def push (out : List S26) (p : S26) : List S26 := pop p out.length out ++ [p]
def chainOf (l : List S26) : List S26 := l.foldl push []
theorem pop_prefix (p : S26) : ∀ (n : Nat) (out : List S26), pop p n out <+: out
  | 0, out => List.prefix_refl _
  | n + 1, out => by
    unfold pop
    split
    · exact (pop_prefix p n _).trans (List.take_prefix _ _)
    · exact List.prefix_refl _
theorem pop_pos (p : S26) : ∀ (n : Nat) (out : List S26), 0 < out.length → 0 < (pop p n out).length
  | 0, out, h => h
  | n + 1, out, h => by
    unfold pop
    split
    · rename_i hc
      exact pop_pos p n _ (by rw [List.length_take]; omega)
    · exact h
theorem push_len (out : List S26) (p : S26) : (push out p).length ≤ out.length + 1 := by
  unfold push
  rw [List.length_append]
  have := (pop_prefix p out.length out).length_le
  simp only [List.length_singleton]
  omega
theorem push_mem {out : List S26} {p x : S26} (h : x ∈ push out p) : x ∈ out ∨ x = p := by
  unfold push at h
  rcases List.mem_append.1 h with h | h
  · exact .inl ((pop_prefix p out.length out).subset h)
  · exact .inr (by simpa using h)
theorem chain_len : ∀ (l out : List S26), (l.foldl push out).length ≤ out.length + l.length
  | [], out => by simp
  | p :: l, out => by
    have a := chain_len l (push out p)
    have b := push_len out p
    simp only [List.foldl_cons, List.length_cons]
    omega
theorem chain_mem : ∀ (l out : List S26) {x : S26}, x ∈ l.foldl push out → x ∈ out ∨ x ∈ l
  | [], _, _, h => .inl h
  | p :: l, out, x, h => by
    rcases chain_mem l (push out p) h with h | h
    · rcases push_mem h with h | h
      · exact .inl h
      · exact .inr (by simp [h])
    · exact .inr (by simp [h])
theorem chainOf_mem {l : List S26} {x : S26} (h : x ∈ chainOf l) : x ∈ l := by
  rcases chain_mem l [] h with h | h
  · cases h
  · exact h
theorem chain_first : ∀ (l out : List S26) (a : S26), out.head? = some a → (l.foldl push out).head? = some a ∧ (l ≠ [] → 1 < (l.foldl push out).length)
  | [], out, a, h => ⟨h, fun h => absurd rfl h⟩
  | p :: l, out, a, h => by
    have hpos : 0 < out.length := by cases out with | nil => cases h | cons _ _ => simp
    have hp := pop_pos p out.length out hpos
    have h1 : (push out p).head? = some a := by
      unfold push
      obtain ⟨t, ht⟩ := pop_prefix p out.length out
      cases hq : pop p out.length out with
      | nil => rw [hq] at hp; cases hp
      | cons b q =>
        rw [hq] at ht
        rw [← ht] at h
        simpa using h
    have h2 := chain_first l (push out p) a h1
    refine ⟨h2.1, fun _ => ?_⟩
    by_cases hl : l = []
    · subst hl
      show 1 < (push out p).length
      unfold push
      rw [List.length_append]
      simp only [List.length_singleton]
      omega
    · exact h2.2 hl
theorem chain_l1 (l : List S26) (i : Nat) (hi : i ≤ 100000) (p : S26) (hp : B3 (pg p)) (r : List S26) :
    ∀ (n : Nat) (out : List S26), out.length ≤ n → n ≤ 100000 → nearL out → Ev (fun k => impl_chain.l0 k (pop p n out ++ [p]) l (l.length : Int) ((i + 1 : Nat) : Int)) r →
      Ev (fun k => impl_chain.l1 k out l (l.length : Int) (i : Int) p.f0 p.f1) r := by
  have stop : ∀ out : List S26, out.length ≤ 100000 → ¬ 1 < out.length → Ev (fun k => impl_chain.l0 k (out ++ [p]) l (l.length : Int) ((i + 1 : Nat) : Int)) r → Ev (fun k => impl_chain.l1 k out l (l.length : Int) (i : Int) p.f0 p.f1) r := by
    intro out hl hc hR
    refine Ev.step (fun k => ?_) hR
    simp only [impl_chain.l1]
    rw [if_neg (by omega), if_pos (by omega), cast_succ i (by omega)]
  intro n
  induction n with
  | zero =>
    intro out hl hn ho hR
    exact stop out (by omega) (by omega) hR
  | succ n ih =>
    intro out hl hn ho hR
    by_cases hc : 1 < out.length
    · have e2 : wrap64 ((out.length : Int) - 2) = ((out.length - 2 : Nat) : Int) := by rw [w64 (by omega) (by omega)]; omega
      have e1 : wrap64 ((out.length : Int) - 1) = ((out.length - 1 : Nat) : Int) := by rw [w64 (by omega) (by omega)]; omega
      have ht := turn_at (ho.b3 (mem_getD (l := out) (i := out.length - 2) (by omega))) (ho.b3 (mem_getD (l := out) (i := out.length - 1) (by omega))) hp
      by_cases hle : turn (pg (out.getD (out.length - 2) z26)) (pg (out.getD (out.length - 1) z26)) (pg p) ≤ 0
      · have e : pop p (n + 1) out = pop p n (out.take (out.length - 1)) := by
          rw [pop, if_pos ⟨hc, hle⟩]
        rw [e] at hR
        refine Ev.step (fun k => ?_) (ih (out.take (out.length - 1)) (by rw [List.length_take]; omega) (by omega) (fun x hx => ho x (List.mem_of_mem_take hx)) hR)
        simp only [impl_chain.l1]
        rw [if_pos (by omega), e2, e1, if_pos (by omega), if_pos (by omega), if_pos (by omega), if_pos (by omega), rd_getD, rd_getD, ht]
        simp only [Option.bind_some, Int.toNat_natCast]
        rw [if_pos hle, if_pos (by omega)]
      · have e : pop p (n + 1) out = out := by
          rw [pop, if_neg (fun h => hle h.2)]
        rw [e] at hR
        refine Ev.step (fun k => ?_) hR
        simp only [impl_chain.l1]
        rw [if_pos (by omega), e2, e1, if_pos (by omega), if_pos (by omega), if_pos (by omega), if_pos (by omega), rd_getD, rd_getD, ht]
        simp only [Option.bind_some]
        rw [if_neg hle, if_pos (by omega), cast_succ i (by omega)]
    · have e : pop p (n + 1) out = out := by
        rw [pop, if_neg (fun h => hc h.1)]
      rw [e] at hR
      exact stop out (by omega) hc hR
theorem chain_ev (l : List S26) (hl : l.length ≤ 1000) (hn : nearL l) : Ev (fun k => impl_chain.f k l) (chainOf l) := by
  have key : ∀ i, i ≤ l.length → Ev (fun k => impl_chain.l0 k (chainOf (l.take i)) l (l.length : Int) (i : Int)) (chainOf l) := by
    refine loop_ev (L := fun k i => impl_chain.l0 k (chainOf (l.take i)) l (l.length : Int) (i : Int)) (r := fun _ => chainOf l) ?_ ?_
    · refine Ev.step (f := fun _ => some (chainOf l)) (fun k => ?_) (Ev.now _)
      simp only [impl_chain.l0]
      rw [if_neg (by omega), List.take_length]
    · intro i hi ih
      have e : chainOf (l.take (i + 1)) = push (chainOf (l.take i)) l[i] := by
        rw [List.take_succ_eq_append_getElem hi]
        unfold chainOf
        rw [List.foldl_append]
        rfl
      rw [e] at ih
      have hc : (chainOf (l.take i)).length ≤ 1000 := by
        have := chain_len (l.take i) []
        rw [List.length_take] at this
        simp only [List.length_nil] at this
        unfold chainOf
        omega
      refine Ev.step (fun k => ?_) (chain_l1 l i (by omega) l[i] (hn.b3 (List.getElem_mem hi)) _ _ (chainOf (l.take i)) (Nat.le_refl _) (by omega) (fun x hx => hn x (List.mem_of_mem_take (chainOf_mem hx))) ih)
      simp only [impl_chain.l0]
      rw [if_pos (by omega), if_pos (by omega), if_pos (by omega), rd_getElem l i hi]
  exact key 0 (Nat.zero_le _)
theorem bd_l2 (s A : List S26) (side : Int) (m : Int) (i : Nat) (hi : i ≤ 100000) (hA : A.length ≤ 1000) (p : S26) (hp : B3 (pg p)) (r : List S26) :
    ∀ (n : Nat) (out : List S26), out.length ≤ n → n ≤ 100000 → nearL out → Ev (fun k => spec_bdBand.l1 k s (A ++ (pop p n out ++ [p])) side (A.length : Int) m ((i + 1 : Nat) : Int)) r →
      Ev (fun k => spec_bdBand.l2 k s (A ++ out) side (A.length : Int) m (i : Int) p.f0 p.f1) r := by
  have ea : wrap64 ((A.length : Int) + 1) = ((A.length + 1 : Nat) : Int) := cast_succ _ (by omega)
  have stop : ∀ out : List S26, out.length ≤ 100000 → ¬ 1 < out.length → Ev (fun k => spec_bdBand.l1 k s (A ++ (out ++ [p])) side (A.length : Int) m ((i + 1 : Nat) : Int)) r → Ev (fun k => spec_bdBand.l2 k s (A ++ out) side (A.length : Int) m (i : Int) p.f0 p.f1) r := by
    intro out hl hc hR
    rw [← List.append_assoc] at hR
    refine Ev.step (fun k => ?_) hR
    simp only [spec_bdBand.l2]
    rw [ea, if_neg (by rw [List.length_append]; omega), if_pos (by rw [List.length_append]; omega), cast_succ i (by omega)]
  intro n
  induction n with
  | zero =>
    intro out hl hn ho hR
    exact stop out (by omega) (by omega) hR
  | succ n ih =>
    intro out hl hn ho hR
    by_cases hc : 1 < out.length
    · have hL : (A ++ out).length = A.length + out.length := List.length_append
      have e2 : wrap64 (((A ++ out).length : Int) - 2) = ((A.length + (out.length - 2) : Nat) : Int) := by rw [hL, w64 (by omega) (by omega)]; omega
      have e1 : wrap64 (((A ++ out).length : Int) - 1) = ((A.length + (out.length - 1) : Nat) : Int) := by rw [hL, w64 (by omega) (by omega)]; omega
      have g : ∀ j, (A ++ out).getD (A.length + j) z26 = out.getD j z26 := fun j => by
        rw [List.getD_eq_getElem?_getD, List.getD_eq_getElem?_getD, List.getElem?_append_right (by omega)]
        congr 2
        omega
      have ht := pgTurn_at (ho.b3 (mem_getD (l := out) (i := out.length - 2) (by omega))) (ho.b3 (mem_getD (l := out) (i := out.length - 1) (by omega))) hp
      by_cases hle : turn (pg (out.getD (out.length - 2) z26)) (pg (out.getD (out.length - 1) z26)) (pg p) ≤ 0
      · have e : pop p (n + 1) out = pop p n (out.take (out.length - 1)) := by
          rw [pop, if_pos ⟨hc, hle⟩]
        rw [e] at hR
        refine Ev.step (fun k => ?_) (ih (out.take (out.length - 1)) (by rw [List.length_take]; omega) (by omega) (fun x hx => ho x (List.mem_of_mem_take hx)) hR)
        simp only [spec_bdBand.l2]
        rw [ea, if_pos (by omega), e2, e1, if_pos (by omega), if_pos (by omega), if_pos (by omega), if_pos (by omega), rd_getD, rd_getD, g, g, ht]
        simp only [Option.bind_some, Int.toNat_natCast]
        rw [if_pos hle, if_pos (by omega), List.take_length_add_append]
      · have e : pop p (n + 1) out = out := by
          rw [pop, if_neg (fun h => hle h.2)]
        rw [e, ← List.append_assoc] at hR
        refine Ev.step (fun k => ?_) hR
        simp only [spec_bdBand.l2]
        rw [ea, if_pos (by omega), e2, e1, if_pos (by omega), if_pos (by omega), if_pos (by omega), if_pos (by omega), rd_getD, rd_getD, g, g, ht]
        simp only [Option.bind_some]
        rw [if_neg hle, if_pos (by omega), cast_succ i (by omega)]
    · have e : pop p (n + 1) out = out := by
        rw [pop, if_neg (fun h => hc h.1)]
      rw [e] at hR
      exact stop out (by omega) hc hR
theorem bd_side (s L A : List S26) (side : Int) (hL : L.length = s.length) (hs : s.length ≤ 1000) (hA : A.length ≤ 1000) (hn : nearL L)
    (hrd : ∀ i (h : i < L.length), (side = 1 ∧ wrap64 (wrap64 ((s.length : Int) - 1) - (i : Int)) = ((s.length - 1 - i : Nat) : Int) ∧ rd_T26 s ((s.length - 1 - i : Nat) : Int) = L[i]) ∨ (side ≠ 1 ∧ rd_T26 s (i : Int) = L[i])) (h1 : 0 < s.length) (r : List S26)
    (hR : Ev (fun k => spec_bdBand.l0 k s ((A ++ chainOf L).take ((A ++ chainOf L).length - 1)) (wrap64 (side + 1))) r) :
    ∀ i, i ≤ s.length → Ev (fun k => spec_bdBand.l1 k s (A ++ chainOf (L.take i)) side (A.length : Int) (s.length : Int) (i : Int)) r := by
  have hch : ∀ i, (chainOf (L.take i)).length ≤ 1000 := fun i => by
    have := chain_len (L.take i) []
    rw [List.length_take] at this
    simp only [List.length_nil] at this
    unfold chainOf
    omega
  refine loop_ev (L := fun k i => spec_bdBand.l1 k s (A ++ chainOf (L.take i)) side (A.length : Int) (s.length : Int) (i : Int)) (r := fun _ => r) ?_ ?_
  · rw [show L.take s.length = L from by rw [← hL]; exact List.take_length]
    have hc2 := hch s.length
    rw [show L.take s.length = L from by rw [← hL]; exact List.take_length] at hc2
    have hpos : 0 < (chainOf L).length := by
      cases L with
      | nil => simp at hL; omega
      | cons a L =>
        have := (chain_first L (push [] a) a (by simp [push, pop])).1
        show 0 < (L.foldl push (push [] a)).length
        cases hq : L.foldl push (push [] a) with
        | nil => rw [hq] at this; cases this
        | cons _ _ => simp
    have hl2 : (A ++ chainOf L).length = A.length + (chainOf L).length := List.length_append
    refine Ev.step (fun k => ?_) hR
    simp only [spec_bdBand.l1]
    have e1 : wrap64 (((A ++ chainOf L).length : Int) - 1) = (((A ++ chainOf L).length - 1 : Nat) : Int) := by rw [w64 (by omega) (by omega)]; omega
    rw [if_neg (by omega), e1, if_pos (by omega), if_pos (by omega), Int.toNat_natCast]
  · intro i hi ih
    have hi' : i < L.length := by omega
    have e : chainOf (L.take (i + 1)) = push (chainOf (L.take i)) L[i] := by
      rw [List.take_succ_eq_append_getElem hi']
      unfold chainOf
      rw [List.foldl_append]
      rfl
    rw [e] at ih
    have hs2 := bd_l2 s A side (s.length : Int) i (by omega) hA L[i] (hn.b3 (List.getElem_mem hi')) r _ (chainOf (L.take i)) (Nat.le_refl _) (by have := hch i; omega) (fun x hx => hn x (List.mem_of_mem_take (chainOf_mem hx))) ih
    have hj : Ev (fun k => spec_bdBand.j2 k s (A ++ chainOf (L.take i)) side (A.length : Int) (s.length : Int) (i : Int) (L[i]).f0 (L[i]).f1) r := Ev.step (fun k => by simp only [spec_bdBand.j2]) hs2
    rcases hrd i hi' with ⟨h1', h2, h3⟩ | ⟨h1', h3⟩
    · refine Ev.step (fun k => ?_) hj
      simp only [spec_bdBand.l1]
      rw [if_pos (by omega), if_pos (by omega), if_pos (by omega), if_pos h1', h2, if_pos (by omega), if_pos (by omega), h3]
    · refine Ev.step (fun k => ?_) hj
      simp only [spec_bdBand.l1]
      rw [if_pos (by omega), if_pos (by omega), if_pos (by omega), if_neg h1', h3]
def bandOf (s : List S26) : List S26 := if s.length < 3 then s else (chainOf s).take ((chainOf s).length - 1) ++ (chainOf s.reverse).take ((chainOf s.reverse).length - 1)
theorem sortPg_len (l : List S26) : (sortPg l).length = l.length := (sortPg_perm l).length_eq
theorem sortPg_near {l : List S26} (h : nearL l) : nearL (sortPg l) := fun p hp => h p ((sortPg_perm l).mem_iff.1 hp)
theorem bdBand_ev (l : List S26) (hl : l.length ≤ 500) (hn : nearL l) : Ev (fun k => spec_bdBand.f k l) (bandOf (sortPg l)) := by
  refine Ev.congr (f := fun k => (spec_bdSorted.f k l).bind fun t => (if (t.length : Int) < 3 then (some t) else (spec_bdBand.l0 k t ([] : List S26) 0))) (fun k => rfl) (Ev.bind (bdSorted_ev l (by omega)) ?_)
  have hsl := sortPg_len l
  have hsn := sortPg_near hn
  generalize sortPg l = s at hsl hsn
  unfold bandOf
  by_cases h3 : s.length < 3
  · rw [if_pos h3]
    exact Ev.congr (fun k => if_pos (by omega)) (Ev.now _)
  · rw [if_neg h3]
    refine Ev.congr (f := fun k => spec_bdBand.l0 k s ([] : List S26) 0) (fun k => if_neg (by omega)) ?_
    have hc1 : (chainOf s).length ≤ 500 := by
      have := chain_len s []
      simp only [List.length_nil] at this
      unfold chainOf
      omega
    -- the end
    have hend : ∀ out : List S26, Ev (fun k => spec_bdBand.l0 k s out (wrap64 (1 + 1))) out := fun out => Ev.step (f := fun _ => some out) (fun k => by
      simp only [spec_bdBand.l0]
      rw [show wrap64 (1 + 1) = 2 from by unfold wrap64; omega, if_neg (by omega)]) (Ev.now _)
    generalize hA : (chainOf s).take ((chainOf s).length - 1) = A
    have hAl : A.length ≤ 500 := by rw [← hA, List.length_take]; omega
    have hrev : s.reverse.length = s.length := List.length_reverse
    have hpos : 0 < (chainOf s.reverse).length := by
      cases hq : s.reverse with
      | nil => rw [hq] at hrev; simp at hrev; omega
      | cons a L =>
        have := (chain_first L (push [] a) a (by simp [push, pop])).1
        show 0 < (L.foldl push (push [] a)).length
        cases hq : L.foldl push (push [] a) with
        | nil => rw [hq] at this; cases this
        | cons _ _ => simp
    have et : (A ++ chainOf s.reverse).take ((A ++ chainOf s.reverse).length - 1) = A ++ (chainOf s.reverse).take ((chainOf s.reverse).length - 1) := by
      rw [List.length_append, show A.length + (chainOf s.reverse).length - 1 = A.length + ((chainOf s.reverse).length - 1) from by omega, List.take_length_add_append]
    have side1 := bd_side s s.reverse A 1 hrev (by omega) (by omega) (fun p hp => hsn p (by simpa using hp)) (fun i hi => .inl ⟨rfl, by
      rw [w64 (x := (s.length : Int) - 1) (by omega) (by omega), w64 (by omega) (by omega)]
      omega, by
      rw [rd_getElem s _ (by omega), List.getElem_reverse]⟩) (by omega) _ (by rw [et]; exact hend _) 0 (Nat.zero_le _)
    have h1 : Ev (fun k => spec_bdBand.l0 k s A 1) (A ++ (chainOf s.reverse).take ((chainOf s.reverse).length - 1)) := by
      refine Ev.step (fun k => ?_) side1
      simp only [spec_bdBand.l0]
      rw [if_pos (by omega)]
      simp [chainOf]
    have side0 := bd_side s s [] 0 rfl (by omega) (by simp) hsn (fun i hi => .inr ⟨by decide, rd_getElem s i hi⟩) (by omega) (A ++ (chainOf s.reverse).take ((chainOf s.reverse).length - 1)) (by
      rw [List.nil_append, hA, show wrap64 (0 + 1) = 1 from by unfold wrap64; omega]
      exact h1) 0 (Nat.zero_le _)
    refine Ev.step (fun k => ?_) side0
    simp only [spec_bdBand.l0]
    rw [if_pos (by omega)]
    simp [chainOf]
end Go.Proofs.Ytphpdfcblchpnaa.D
namespace Go.Proofs.Ytphpdfcblchpnaa.D
open Go.RowKit Go.Proofs.Ytphpdfcblchpnaa.Q Go.Proofs.YtphpdfcblchpnaaW.PrintWords Go.Proofs.YtphpdfcblchpnaaW.PrintLast Go.Proofs.YtphpdfcblchpnaaW.PrintMore
open Go.Proofs.Ytphpdfcblchpnaa.M Go.Proofs.YtphpdfcblchpnaaH
theorem reverse_ev (l : List S26) (hl : l.length ≤ 1000000) (h0 : 0 < l.length) : Ev (fun k => impl_Peg_219.f k l) l.reverse := by
  -- after i exchanges
  have key : ∀ (d i : Nat) (x : List S26), 2 * i + d = l.length → x.length = l.length → (∀ t (h : t < l.length), x[t]? = if t < i ∨ l.length - i ≤ t then l[l.length - 1 - t]? else l[t]?) →
      Ev (fun k => impl_Peg_219.l0 k x (i : Int) ((l.length : Int) - 1 - (i : Int))) l.reverse := by
    intro d
    induction d using Nat.strongRecOn with
    | _ d ih =>
      intro i x hd hx ht
      by_cases hc : i + 1 < l.length - i
      · have hj : l.length - 1 - i < l.length := by omega
        have ej : (l.length : Int) - 1 - (i : Int) = ((l.length - 1 - i : Nat) : Int) := by omega
        have hi : i < l.length := by omega
        have w1 : wrap64 ((i : Int) + 1) = ((i + 1 : Nat) : Int) := cast_succ i (by omega)
        have w2 : wrap64 (((l.length - 1 - i : Nat) : Int) - 1) = (l.length : Int) - 1 - ((i + 1 : Nat) : Int) := by rw [w64 (by omega) (by omega)]; omega
        refine Ev.step (fun k => ?_) (ih (d - 2) (by omega) (i + 1) ((x.set i (x[l.length - 1 - i]'(by omega))).set (l.length - 1 - i) (x[i]'(by omega))) (by omega) (by simpa using hx) (fun t h => ?_))
        · simp only [impl_Peg_219.l0]
          rw [ej, if_pos (by omega), if_pos (by omega), if_pos (by omega), if_pos (by omega), if_pos (by omega), w1, w2, rd_getElem x i (by omega), rd_getElem x _ (by omega), Int.toNat_natCast, Int.toNat_natCast]
        · have a := ht t h
          have b := ht i hi
          have c := ht (l.length - 1 - i) hj
          rw [if_neg (by omega), List.getElem?_eq_getElem (by omega)] at b
          rw [if_neg (by omega), List.getElem?_eq_getElem (by omega)] at c
          rw [List.getElem?_set, List.getElem?_set]
          by_cases e1 : l.length - 1 - i = t
          · subst e1
            rw [if_pos rfl, if_pos (by simp; omega), if_pos (by omega), b]
            congr 1
            omega
          · rw [if_neg e1]
            by_cases e2 : i = t
            · subst e2
              rw [if_pos rfl, if_pos (by omega), if_pos (by omega), c]
            · rw [if_neg e2, a]
              by_cases e3 : t < i ∨ l.length - i ≤ t
              · rw [if_pos e3, if_pos (by omega)]
              · rw [if_neg e3, if_neg (by omega)]
      · have e : x = l.reverse := by
          apply List.ext_getElem?
          intro t
          by_cases h : t < l.length
          · rw [ht t h, List.getElem?_reverse h]
            by_cases c : t < i ∨ l.length - i ≤ t
            · rw [if_pos c]
            · rw [if_neg c]
              congr 1
              omega
          · rw [List.getElem?_eq_none (by omega), List.getElem?_eq_none (by simp; omega)]
        rw [e]
        refine Ev.step (f := fun _ => some l.reverse) (fun k => ?_) (Ev.now _)
        simp only [impl_Peg_219.l0]
        rw [if_neg (by omega)]
  have := key l.length 0 l (by omega) rfl (fun t h => by rw [if_neg (by omega)])
  refine Ev.congr (fun k => ?_) this
  unfold impl_Peg_219.f
  rw [w64 (by omega) (by omega)]
  simp
theorem concat_ev (a b : List S26) (ha : a.length ≤ 1000) (hb : b.length ≤ 1000) : Ev (fun k => impl_Peg_292.f k [a, b]) (a ++ b) := by
  have r0 : rd_L3 [a, b] 0 = a := rfl
  have r1 : rd_L3 [a, b] 1 = b := rfl
  have w1 : wrap64 (0 + 1) = 1 := by unfold wrap64; omega
  have w2 : wrap64 (1 + 1) = 2 := by unfold wrap64; omega
  have wa : wrap64 (0 + (a.length : Int)) = (a.length : Int) := by rw [w64 (by omega) (by omega)]; omega
  have wb : wrap64 ((a.length : Int) + (b.length : Int)) = ((a.length + b.length : Nat) : Int) := by rw [w64 (by omega) (by omega)]; omega
  refine ⟨6, fun k hk => ?_⟩
  obtain ⟨m, rfl⟩ : ∃ m, k = m + 6 := ⟨k - 6, by omega⟩
  have e2 : (([a, b] : List (List S26)).length : Int) = 2 := rfl
  show impl_Peg_292.l0 (m + 6) [a, b] 0 [a, b] (([a, b] : List (List S26)).length : Int) 0 = _
  simp only [impl_Peg_292.l0, impl_Peg_292.l1, e2, r0, r1, w1, w2, wa, wb]
  rw [if_pos (by omega), if_pos (by omega), if_pos (by omega), if_neg (by omega), if_pos (by omega), if_pos (by omega), if_pos (by omega), if_neg (by omega), if_neg (by omega)]
  unfold impl_Peg_299.f
  rw [if_pos (by omega)]
  simp only [Option.bind_some, List.nil_append, List.length_nil]
  rw [if_pos (by omega), if_pos (by omega), if_pos (by omega), if_pos (by omega), if_pos (by omega), if_pos (by omega), if_pos (by omega), if_pos (by omega), if_neg (by omega)]
theorem band_ev (l : List S26) (h0 : 0 < l.length) (hl : l.length ≤ 500) (hn : nearL l) : Ev (fun k => impl_band.f k l) (bandOf (sortPg l)) := by
  have hs : impl_sorted.f l = some (sortPg l) := by
    unfold impl_sorted.f
    rw [if_pos (by omega)]
  refine Ev.congr (f := fun k => (impl_sorted.f l).bind fun t2346 => (if (t2346.length : Int) = 1 then (some t2346) else ((impl_chain.f k t2346).bind fun t2349 => ((impl_Peg_219.f k t2346).bind fun t2352 => ((impl_chain.f k t2352).bind fun t2353 => (if 0 ≤ (wrap64 ((t2349.length : Int) - 1)) then (if (wrap64 ((t2349.length : Int) - 1)) ≤ (t2349.length : Int) then (if 0 ≤ (wrap64 ((t2353.length : Int) - 1)) then (if (wrap64 ((t2353.length : Int) - 1)) ≤ (t2353.length : Int) then ((impl_Peg_292.f k (([(t2349.take ((wrap64 ((t2349.length : Int) - 1)) : Int).toNat), (t2353.take ((wrap64 ((t2353.length : Int) - 1)) : Int).toNat)] : List (List (S26))))).bind fun t2369 => (some t2369)) else (none)) else (none)) else (none)) else (none)))))) ) (fun k => rfl) ?_
  rw [hs]
  simp only [Option.bind_some]
  have hsl := sortPg_len l
  have hsn := sortPg_near hn
  generalize sortPg l = s at hsl hsn
  have hpos : ∀ L : List S26, 0 < L.length → 0 < (chainOf L).length := by
    intro L hL
    cases L with
    | nil => simp at hL
    | cons a L =>
      have := (chain_first L (push [] a) a (by simp [push, pop])).1
      show 0 < (L.foldl push (push [] a)).length
      cases hq : L.foldl push (push [] a) with
      | nil => rw [hq] at this; cases this
      | cons _ _ => simp
  have hle : ∀ L : List S26, (chainOf L).length ≤ L.length := fun L => by
    have := chain_len L []
    simp only [List.length_nil] at this
    unfold chainOf
    omega
  by_cases h1 : s.length = 1
  · have e : bandOf s = s := by unfold bandOf; rw [if_pos (by omega)]
    rw [e]
    exact Ev.congr (fun k => if_pos (by omega)) (Ev.now _)
  · have hr : s.reverse.length = s.length := List.length_reverse
    have p1 := hpos s (by omega)
    have p2 := hpos s.reverse (by omega)
    have l1 := hle s
    have l2 := hle s.reverse
    have e1 : wrap64 (((chainOf s).length : Int) - 1) = (((chainOf s).length - 1 : Nat) : Int) := by rw [w64 (by omega) (by omega)]; omega
    have e2 : wrap64 (((chainOf s.reverse).length : Int) - 1) = (((chainOf s.reverse).length - 1 : Nat) : Int) := by rw [w64 (by omega) (by omega)]; omega
    have eb : bandOf s = (chainOf s).take ((chainOf s).length - 1) ++ (chainOf s.reverse).take ((chainOf s.reverse).length - 1) := by
      unfold bandOf
      by_cases h3 : s.length < 3
      · rw [if_pos h3]
        obtain ⟨a, b, rfl⟩ : ∃ a b, s = [a, b] := by
          match s, h3, h1, h0 with
          | [a, b], _, _, _ => exact ⟨a, b, rfl⟩
          | [], _, _, _ => simp at hsl; omega
          | [_], _, h1, _ => exact absurd rfl h1
          | _ :: _ :: _ :: _, h3, _, _ =>
            simp at h3
            omega
        simp [chainOf, push, pop]
      · rw [if_neg h3]
    rw [eb]
    refine Ev.congr (fun k => if_neg (by omega)) (Ev.bind (chain_ev s (by omega) hsn) (Ev.bind (reverse_ev s (by omega) (by omega)) (Ev.bind (chain_ev s.reverse (by omega) (fun p hp => hsn p (by simpa using hp))) ?_)))
    rw [e1, e2]
    simp only [Int.toNat_natCast]
    refine Ev.congr (fun k => if_pos (by omega)) (Ev.congr (fun k => if_pos (by omega)) (Ev.congr (fun k => if_pos (by omega)) (Ev.congr (fun k => if_pos (by omega)) (Ev.bind (concat_ev _ _ (by rw [List.length_take]; omega) (by rw [List.length_take]; omega)) (Ev.now _)))))
def OnB (b : List Pg) (p : Pg) : Prop := if b.length = 1 then p = at' b 0 else onRim b p
theorem bandWhere_ev (b : List S26) (h0 : 0 < b.length) (hl : b.length ≤ 1000) (hn : nearL b) (p : S26) (hp : B3 (pg p)) : ∃ v, Ev (fun k => impl_bandWhere.f k b p.f0 p.f1) v ∧ (v = 0 ↔ OnB (pgs b) (pg p)) := by
  have hB : AllB3 (pgs b) := fun i => by
    have : at' (pgs b) i ∈ pgs b := by
      rw [← at'_mod]
      exact mem_at' _ _ (Nat.mod_lt _ (by rw [pgs_length]; exact h0))
    obtain ⟨q, hq, e⟩ := List.mem_map.1 this
    rw [← e]
    exact hn.b3 hq
  unfold OnB
  rw [pgs_length]
  by_cases h1 : b.length = 1
  · simp only [if_pos h1]
    have e0 : (rd_T26 b 0).f0 = (at' (pgs b) 0).1 := rd_f0 b 0 h0
    have e1 : (rd_T26 b 0).f1 = (at' (pgs b) 0).2 := rd_f1 b 0 h0
    by_cases h : pg p = at' (pgs b) 0
    · refine ⟨0, ?_, by simp [h]⟩
      refine Ev.congr (f := fun k => impl_bandWhere.j0 k b true p.f0 p.f1) (fun k => ?_) (Ev.step (f := fun _ => some 0) (fun k => by simp only [impl_bandWhere.j0]; rw [if_pos trivial]) (Ev.now _))
      unfold impl_bandWhere.f
      rw [if_pos (by omega), if_pos (by omega), e0, e1, ← h]
      simp [pg]
    · refine ⟨-1, ?_, by constructor <;> intro hh <;> first | omega | exact absurd hh h⟩
      refine Ev.congr (f := fun k => impl_bandWhere.j0 k b false p.f0 p.f1) (fun k => ?_) (Ev.step (f := fun _ => some (-1)) (fun k => by simp only [impl_bandWhere.j0]; rw [if_neg (by simp), if_pos (by omega)]) (Ev.now _))
      unfold impl_bandWhere.f
      rw [if_pos (by omega), if_pos (by omega), e0, e1]
      congr 1
      rw [Bool.and_eq_false_iff]
      by_cases c : p.f0 = (at' (pgs b) 0).1
      · right
        simp only [beq_eq_false_iff_ne, ne_eq]
        exact fun c2 => h (Prod.ext c c2)
      · left
        simpa using c
  · simp only [if_neg h1]
    have hw := where_ev b h0 hl hB (pg p) hp
    refine ⟨whereA (pgs b) (pg p), ?_, ?_⟩
    · refine Ev.congr (f := fun k => impl_bandWhere.j0 k b false p.f0 p.f1) (fun k => ?_) (Ev.step (f := fun k => (impl_where.f k b p.f0 p.f1).bind fun t => some t) (fun k => by simp only [impl_bandWhere.j0]; rw [if_neg (by simp), if_neg (by omega)]) (Ev.bind hw (Ev.now _)))
      unfold impl_bandWhere.f
      rw [if_neg (by omega)]
    · constructor
      · intro h
        false_or_by_contra
        rename_i hr
        rw [whereA_off hr] at h
        split at h <;> omega
      · exact whereA_on
theorem bdOn_ev (b : List S26) (h0 : 0 < b.length) (hl : b.length ≤ 1000) (hn : nearL b) (p : S26) (hp : B3 (pg p)) : Ev (fun k => spec_bdOn.f k b p.f0 p.f1) (dec (OnB (pgs b) (pg p))) := by
  have hB : ∀ i, B3 (at' (pgs b) i) := fun i => by
    have : at' (pgs b) i ∈ pgs b := by
      rw [← at'_mod]
      exact mem_at' _ _ (Nat.mod_lt _ (by rw [pgs_length]; exact h0))
    obtain ⟨q, hq, e⟩ := List.mem_map.1 this
    rw [← e]
    exact hn.b3 hq
  have key : ∀ i, i ≤ b.length → Ev (fun k => spec_bdOn.l0 k b b (b.length : Int) (i : Int) p.f0 p.f1) (dec (∃ t, i ≤ t ∧ t < b.length ∧ (at' (pgs b) t = pg p ∨ (1 < b.length ∧ onSeg (at' (pgs b) t) (at' (pgs b) (t + 1)) (pg p))))) := by
    refine loop_ev (r := fun i => dec (∃ t, i ≤ t ∧ t < b.length ∧ (at' (pgs b) t = pg p ∨ (1 < b.length ∧ onSeg (at' (pgs b) t) (at' (pgs b) (t + 1)) (pg p))))) ?_ ?_
    · rw [dec_false (by rintro ⟨t, h1, h2, _⟩; omega)]
      refine Ev.step (f := fun _ => some false) (fun k => ?_) (Ev.now _)
      simp only [spec_bdOn.l0]
      rw [if_neg (by omega)]
    · intro i hi ih
      have found : Ev (fun k => spec_bdOn.j1 k b b (b.length : Int) (i : Int) true p.f0 p.f1) true := Ev.step (f := fun _ => some true) (fun k => by simp only [spec_bdOn.j1]; rw [if_pos trivial]) (Ev.now _)
      have on : Ev (fun k => spec_bdOn.j1 k b b (b.length : Int) (i : Int) false p.f0 p.f1) (dec (∃ t, i + 1 ≤ t ∧ t < b.length ∧ (at' (pgs b) t = pg p ∨ (1 < b.length ∧ onSeg (at' (pgs b) t) (at' (pgs b) (t + 1)) (pg p))))) := by
        refine Ev.step (fun k => ?_) ih
        simp only [spec_bdOn.j1]
        rw [if_neg (by simp), cast_succ i (by omega)]
      have no : ¬ (at' (pgs b) i = pg p ∨ (1 < b.length ∧ onSeg (at' (pgs b) i) (at' (pgs b) (i + 1)) (pg p))) → dec (∃ t, i ≤ t ∧ t < b.length ∧ (at' (pgs b) t = pg p ∨ (1 < b.length ∧ onSeg (at' (pgs b) t) (at' (pgs b) (t + 1)) (pg p)))) = dec (∃ t, i + 1 ≤ t ∧ t < b.length ∧ (at' (pgs b) t = pg p ∨ (1 < b.length ∧ onSeg (at' (pgs b) t) (at' (pgs b) (t + 1)) (pg p)))) := by
        intro hno
        apply dec_congr
        constructor
        · rintro ⟨t, h1, h2, h3⟩
          by_cases c : t = i
          · subst c; exact absurd h3 hno
          · exact ⟨t, by omega, h2, h3⟩
        · rintro ⟨t, h1, h2, h3⟩
          exact ⟨t, by omega, h2, h3⟩
      have e0 := rd_f0 b i hi
      have e1 := rd_f1 b i hi
      by_cases h : at' (pgs b) i = pg p
      · rw [dec_true ⟨i, Nat.le_refl _, hi, .inl h⟩]
        refine Ev.step (fun k => ?_) found
        simp only [spec_bdOn.l0]
        rw [if_pos (by omega), if_pos (by omega), if_pos (by omega), e0, e1, h, if_pos (by simp [pg])]
      · have hne : ¬ ((((at' (pgs b) i).1 == p.f0) && ((at' (pgs b) i).2 == p.f1)) = true) := by
          intro hh
          simp only [Bool.and_eq_true, beq_iff_eq] at hh
          exact h (Prod.ext hh.1 hh.2)
        by_cases hl1 : 1 < b.length
        · have te := tmod_add i 1 b.length (by omega)
          rw [show ((1 : Nat) : Int) = 1 from rfl] at te
          have hlt : (i + 1) % b.length < b.length := Nat.mod_lt _ (by omega)
          have hon := pgOn_eq (hB i) (hB (i + 1)) hp
          have hon' : spec_pgOn.f (at' (pgs b) i).1 (at' (pgs b) i).2 (at' (pgs b) (i + 1)).1 (at' (pgs b) (i + 1)).2 p.f0 p.f1 = some (decide (onSeg (at' (pgs b) i) (at' (pgs b) (i + 1)) (pg p))) := hon
          have stepk : ∀ k, spec_bdOn.l0 (k + 1) b b (b.length : Int) (i : Int) p.f0 p.f1 = spec_bdOn.j1 k b b (b.length : Int) (i : Int) (decide (onSeg (at' (pgs b) i) (at' (pgs b) (i + 1)) (pg p))) p.f0 p.f1 := by
            intro k
            simp only [spec_bdOn.l0]
            rw [if_pos (by omega), if_pos (by omega), if_pos (by omega), e0, e1, if_neg hne, if_pos (by omega), if_neg (by omega), te, if_pos (by omega), if_pos (by omega), rdm0 b _ h0, rdm1 b _ h0, hon']
            rfl
          by_cases hs : onSeg (at' (pgs b) i) (at' (pgs b) (i + 1)) (pg p)
          · rw [dec_true ⟨i, Nat.le_refl _, hi, .inr ⟨hl1, hs⟩⟩]
            rw [decide_eq_true hs] at stepk
            exact Ev.step stepk found
          · rw [no (by rintro (hh | hh); exact h hh; exact hs hh.2)]
            rw [decide_eq_false hs] at stepk
            exact Ev.step stepk on
        · rw [no (by rintro (hh | hh); exact h hh; exact hl1 hh.1)]
          refine Ev.step (fun k => ?_) on
          simp only [spec_bdOn.l0]
          rw [if_pos (by omega), if_pos (by omega), if_pos (by omega), e0, e1, if_neg hne, if_neg (by omega)]
  have h := key 0 (Nat.zero_le _)
  have e : dec (∃ t, 0 ≤ t ∧ t < b.length ∧ (at' (pgs b) t = pg p ∨ (1 < b.length ∧ onSeg (at' (pgs b) t) (at' (pgs b) (t + 1)) (pg p)))) = dec (OnB (pgs b) (pg p)) := by
    apply dec_congr
    unfold OnB onRim
    rw [pgs_length]
    by_cases h1 : b.length = 1
    · rw [if_pos h1]
      constructor
      · rintro ⟨t, _, ht, hh | hh⟩
        · rw [← hh]
          congr 1
          omega
        · omega
      · intro hh
        exact ⟨0, Nat.le_refl _, by omega, .inl hh.symm⟩
    · rw [if_neg h1]
      constructor
      · rintro ⟨t, _, ht, hh | hh⟩
        · refine ⟨t, ht, ?_⟩
          rw [hh]
          exact ⟨turn_self _ _, by omega, by omega, by omega, by omega⟩
        · exact ⟨t, ht, hh.2⟩
      · rintro ⟨t, ht, hh⟩
        exact ⟨t, Nat.zero_le _, ht, .inr ⟨by omega, hh⟩⟩
  rw [e] at h
  exact h
noncomputable def onL (b : List S26) (p : S26) : Bool := dec (OnB (pgs b) (pg p))
noncomputable def layer (l : List S26) : List S26 := (sortPg l).filter (onL (bandOf (sortPg l)))
noncomputable def inside (l : List S26) : List S26 := (sortPg l).filter (fun p => !onL (bandOf (sortPg l)) p)
theorem bandOf_mem {s : List S26} {x : S26} (h : x ∈ bandOf s) : x ∈ s := by
  unfold bandOf at h
  split at h
  · exact h
  · rcases List.mem_append.1 h with h | h
    · exact chainOf_mem (List.mem_of_mem_take h)
    · simpa using chainOf_mem (List.mem_of_mem_take h)
theorem bandOf_len (s : List S26) : (bandOf s).length ≤ 2 * s.length := by
  have hle : ∀ L : List S26, (chainOf L).length ≤ L.length := fun L => by
    have := chain_len L []
    simp only [List.length_nil] at this
    unfold chainOf
    omega
  unfold bandOf
  split
  · omega
  · have a := hle s
    have b := hle s.reverse
    rw [List.length_reverse] at b
    rw [List.length_append, List.length_take, List.length_take]
    omega
theorem bandOf_first {s : List S26} {a : S26} {t : List S26} (h : s = a :: t) : (bandOf s).head? = some a := by
  unfold bandOf
  split
  · rw [h]; rfl
  · rename_i h3
    subst h
    have hf := chain_first t (push [] a) a (by simp [push, pop])
    have e : chainOf (a :: t) = t.foldl push (push [] a) := rfl
    have h2 := hf.2 (by intro ht; subst ht; simp at h3)
    have h1 := hf.1
    rw [← e] at h1 h2
    cases hq : chainOf (a :: t) with
    | nil => rw [hq] at h1; cases h1
    | cons c q =>
      rw [hq] at h1 h2
      cases q with
      | nil => simp at h2
      | cons d q => simpa using h1
theorem onB_head {b : List S26} {a : S26} (h : b.head? = some a) : OnB (pgs b) (pg a) := by
  cases b with
  | nil => cases h
  | cons c q =>
    obtain rfl : c = a := by simpa using h
    have e : at' (pgs (c :: q)) 0 = pg c := by
      rw [at'_of _ _ (by rw [pgs_length]; simp)]
      rfl
    unfold OnB
    split
    · exact e.symm
    · refine ⟨0, by rw [pgs_length]; simp, ?_⟩
      rw [e]
      exact ⟨turn_self _ _, by omega, by omega, by omega, by omega⟩
theorem band_near {l : List S26} (hn : nearL l) : nearL (bandOf (sortPg l)) := fun _ hp => sortPg_near hn _ (bandOf_mem hp)
theorem band_pos {l : List S26} (h0 : 0 < l.length) : 0 < (bandOf (sortPg l)).length := by
  cases hs : sortPg l with
  | nil =>
    have := sortPg_len l
    rw [hs] at this
    simp at this
    omega
  | cons a t =>
    have := bandOf_first hs
    rw [hs] at this
    cases hq : bandOf (a :: t) with
    | nil => rw [hq] at this; cases this
    | cons _ _ => simp
theorem onBand_ev (l : List S26) (h0 : 0 < l.length) (hl : l.length ≤ 100) (hn : nearL l) : Ev (fun k => impl_onBand.f k l) (layer l, inside l) := by
  have hs : impl_sorted.f l = some (sortPg l) := by
    unfold impl_sorted.f
    rw [if_pos (by omega)]
  refine Ev.congr (f := fun k => (impl_band.f k l).bind fun t2375 => ((impl_sorted.f l).bind fun t2384 => (impl_onBand.l0 k t2375 (([] : List (S26))) (([] : List (S26))) t2384 (t2384.length : Int) 0))) (fun k => rfl) (Ev.bind (band_ev l h0 (by omega) hn) ?_)
  rw [hs]
  simp only [Option.bind_some]
  have hbn := band_near hn
  have hb0 := band_pos h0
  have hbl := bandOf_len (sortPg l)
  have hsl := sortPg_len l
  have hsn := sortPg_near hn
  unfold layer inside
  generalize bandOf (sortPg l) = b at *
  generalize sortPg l = s at *
  have key : ∀ i, i ≤ s.length → Ev (fun k => impl_onBand.l0 k b ((s.take i).filter (onL b)) ((s.take i).filter fun p => !onL b p) s (s.length : Int) (i : Int)) (s.filter (onL b), s.filter fun p => !onL b p) := by
    refine loop_ev (L := fun k i => impl_onBand.l0 k b ((s.take i).filter (onL b)) ((s.take i).filter fun p => !onL b p) s (s.length : Int) (i : Int)) (r := fun _ => (s.filter (onL b), s.filter fun p => !onL b p)) ?_ ?_
    · refine Ev.step (f := fun _ => some (s.filter (onL b), s.filter fun p => !onL b p)) (fun k => ?_) (Ev.now _)
      simp only [impl_onBand.l0]
      rw [if_neg (by omega), List.take_length]
    · intro i hi ih
      rw [List.take_succ_eq_append_getElem hi, List.filter_append, List.filter_append] at ih
      obtain ⟨v, hv, hiff⟩ := bandWhere_ev b hb0 (by omega) hbn s[i] (hsn.b3 (List.getElem_mem hi))
      have l1 : ((s.take i).filter (onL b)).length ≤ 1000 := by have := List.length_filter_le (onL b) (s.take i); rw [List.length_take] at this; omega
      have l2 : ((s.take i).filter fun p => !onL b p).length ≤ 1000 := by have := List.length_filter_le (fun p => !onL b p) (s.take i); rw [List.length_take] at this; omega
      refine Ev.step (f := fun k => (impl_bandWhere.f k b (s[i]).f0 (s[i]).f1).bind fun t2389 => (if t2389 = 0 then (if ((s.take i).filter (onL b)).length < 8796093022208 then (impl_onBand.l0 k b (((s.take i).filter (onL b)) ++ [s[i]]) ((s.take i).filter fun p => !onL b p) s (s.length : Int) ((i + 1 : Nat) : Int)) else (none)) else (if ((s.take i).filter fun p => !onL b p).length < 8796093022208 then (impl_onBand.l0 k b ((s.take i).filter (onL b)) (((s.take i).filter fun p => !onL b p) ++ [s[i]]) s (s.length : Int) ((i + 1 : Nat) : Int)) else (none)))) (fun k => ?_) (Ev.bind hv ?_)
      · simp only [impl_onBand.l0]
        rw [if_pos (by omega), if_pos (by omega), if_pos (by omega), rd_getElem s i hi, cast_succ i (by omega)]
      · by_cases h : v = 0
        · have ho : onL b s[i] = true := dec_true (hiff.1 h)
          have f1 : [s[i]].filter (onL b) = [s[i]] := by simp [ho]
          have f2 : ([s[i]].filter fun p => !onL b p) = [] := by simp [ho]
          rw [f1, f2, List.append_nil] at ih
          exact Ev.congr (fun k => if_pos h) (Ev.congr (fun k => if_pos (by omega)) ih)
        · have ho : onL b s[i] = false := dec_false (fun hh => h (hiff.2 hh))
          have f1 : [s[i]].filter (onL b) = [] := by simp [ho]
          have f2 : ([s[i]].filter fun p => !onL b p) = [s[i]] := by simp [ho]
          rw [f1, f2, List.append_nil] at ih
          exact Ev.congr (fun k => if_neg h) (Ev.congr (fun k => if_pos (by omega)) ih)
  exact key 0 (Nat.zero_le _)
theorem bdOuter_ev (l : List S26) (h0 : 0 < l.length) (hl : l.length ≤ 100) (hn : nearL l) : Ev (fun k => spec_bdOuter.f k l) (layer l, inside l) := by
  refine Ev.congr (f := fun k => (spec_bdBand.f k l).bind fun t2293 => ((spec_bdSorted.f k l).bind fun t2296 => (spec_bdOuter.l0 k t2293 ([] : List (S26)) ([] : List (S26)) t2296 (t2296.length : Int) 0))) (fun k => rfl) (Ev.bind (bdBand_ev l (by omega) hn) (Ev.bind (bdSorted_ev l (by omega)) ?_))
  have hbn := band_near hn
  have hb0 := band_pos h0
  have hbl := bandOf_len (sortPg l)
  have hsl := sortPg_len l
  have hsn := sortPg_near hn
  unfold layer inside
  generalize bandOf (sortPg l) = b at *
  generalize sortPg l = s at *
  have key : ∀ i, i ≤ s.length → Ev (fun k => spec_bdOuter.l0 k b ((s.take i).filter (onL b)) ((s.take i).filter fun p => !onL b p) s (s.length : Int) (i : Int)) (s.filter (onL b), s.filter fun p => !onL b p) := by
    refine loop_ev (L := fun k i => spec_bdOuter.l0 k b ((s.take i).filter (onL b)) ((s.take i).filter fun p => !onL b p) s (s.length : Int) (i : Int)) (r := fun _ => (s.filter (onL b), s.filter fun p => !onL b p)) ?_ ?_
    · refine Ev.step (f := fun _ => some (s.filter (onL b), s.filter fun p => !onL b p)) (fun k => ?_) (Ev.now _)
      simp only [spec_bdOuter.l0]
      rw [if_neg (by omega), List.take_length]
    · intro i hi ih
      rw [List.take_succ_eq_append_getElem hi, List.filter_append, List.filter_append] at ih
      have hv := bdOn_ev b hb0 (by omega) hbn s[i] (hsn.b3 (List.getElem_mem hi))
      have l1 : ((s.take i).filter (onL b)).length ≤ 1000 := by have := List.length_filter_le (onL b) (s.take i); rw [List.length_take] at this; omega
      have l2 : ((s.take i).filter fun p => !onL b p).length ≤ 1000 := by have := List.length_filter_le (fun p => !onL b p) (s.take i); rw [List.length_take] at this; omega
      refine Ev.step (f := fun k => (spec_bdOn.f k b (s[i]).f0 (s[i]).f1).bind fun t2389 => (if t2389 = true then (if ((s.take i).filter (onL b)).length < 8796093022208 then (spec_bdOuter.l0 k b (((s.take i).filter (onL b)) ++ [s[i]]) ((s.take i).filter fun p => !onL b p) s (s.length : Int) ((i + 1 : Nat) : Int)) else (none)) else (if ((s.take i).filter fun p => !onL b p).length < 8796093022208 then (spec_bdOuter.l0 k b ((s.take i).filter (onL b)) (((s.take i).filter fun p => !onL b p) ++ [s[i]]) s (s.length : Int) ((i + 1 : Nat) : Int)) else (none)))) (fun k => ?_) (Ev.bind hv ?_)
      · simp only [spec_bdOuter.l0]
        rw [if_pos (by omega), if_pos (by omega), if_pos (by omega), rd_getElem s i hi, cast_succ i (by omega)]
      · show Ev _ _
        by_cases h : onL b s[i] = true
        · have f1 : [s[i]].filter (onL b) = [s[i]] := by simp [h]
          have f2 : ([s[i]].filter fun p => !onL b p) = [] := by simp [h]
          rw [f1, f2, List.append_nil] at ih
          exact Ev.congr (fun k => if_pos h) (Ev.congr (fun k => if_pos (by omega)) ih)
        · have ho : onL b s[i] = false := by simpa using h
          have f1 : [s[i]].filter (onL b) = [] := by simp [ho]
          have f2 : ([s[i]].filter fun p => !onL b p) = [s[i]] := by simp [ho]
          rw [f1, f2, List.append_nil] at ih
          exact Ev.congr (fun k => if_neg h) (Ev.congr (fun k => if_pos (by omega)) ih)
  exact key 0 (Nat.zero_le _)
theorem inside_lt (l : List S26) (h0 : 0 < l.length) : (inside l).length < l.length := by
  unfold inside
  have hsl := sortPg_len l
  cases hs : sortPg l with
  | nil => rw [hs] at hsl; simp at hsl; omega
  | cons a t =>
    have ho : onL (bandOf (a :: t)) a = true := dec_true (onB_head (bandOf_first rfl))
    rw [List.filter_cons_of_neg (by simp [ho])]
    have := List.length_filter_le (fun p => !onL (bandOf (a :: t)) p) t
    rw [hs] at hsl
    simp at hsl
    omega
theorem inside_near {l : List S26} (hn : nearL l) : nearL (inside l) := fun _ hp => sortPg_near hn _ (List.mem_filter.1 hp).1
theorem layers_loop : ∀ (n : Nat) (l : List S26) (out : List (List S26)), l.length ≤ n → n ≤ 100 → nearL l → out.length ≤ 1000 - n → (∀ x ∈ out, x.length ≤ 100) → ∃ r : List (List S26),
    Ev (fun k => impl_LayersOf.l0 k l out) (r, true) ∧ Ev (fun k => spec_bdLayers.l0 k l out) r ∧ r.length ≤ 1000 ∧ ∀ x ∈ r, x.length ≤ 100 := by
  intro n
  induction n with
  | zero =>
    intro l out hl hn _ ho hx
    refine ⟨out, Ev.step (f := fun _ => some (out, true)) (fun k => ?_) (Ev.now _), Ev.step (f := fun _ => some out) (fun k => ?_) (Ev.now _), by omega, hx⟩
    · simp only [impl_LayersOf.l0]
      rw [if_neg (by omega)]
    · simp only [spec_bdLayers.l0]
      rw [if_neg (by omega)]
  | succ n ih =>
    intro l out hl hn hnear ho hx
    by_cases h0 : 0 < l.length
    · obtain ⟨r, h1, h2, h3⟩ := ih (inside l) (out ++ [layer l]) (by have := inside_lt l h0; omega) (by omega) (inside_near hnear) (by rw [List.length_append]; simp; omega) (fun x hm => by
        rcases List.mem_append.1 hm with hm | hm
        · exact hx x hm
        · obtain rfl : x = layer l := by simpa using hm
          have := List.length_filter_le (onL (bandOf (sortPg l))) (sortPg l)
          rw [sortPg_len] at this
          show ((sortPg l).filter (onL (bandOf (sortPg l)))).length ≤ 100
          omega)
      refine ⟨r, ?_, ?_, h3⟩
      · refine Ev.step (f := fun k => (impl_onBand.f k l).bind fun bt2400 => (if out.length < 5864062014805 then (impl_LayersOf.l0 k bt2400.2 (out ++ [bt2400.1])) else (none))) (fun k => ?_) (Ev.bind (onBand_ev l h0 (by omega) hnear) (Ev.congr (fun k => if_pos (by omega)) h1))
        simp only [impl_LayersOf.l0]
        rw [if_pos (by omega)]
      · refine Ev.step (f := fun k => (spec_bdOuter.f k l).bind fun bt2308 => (if out.length < 5864062014805 then (spec_bdLayers.l0 k bt2308.2 (out ++ [bt2308.1])) else (none))) (fun k => ?_) (Ev.bind (bdOuter_ev l h0 (by omega) hnear) (Ev.congr (fun k => if_pos (by omega)) h2))
        simp only [spec_bdLayers.l0]
        rw [if_pos (by omega)]
    · refine ⟨out, Ev.step (f := fun _ => some (out, true)) (fun k => ?_) (Ev.now _), Ev.step (f := fun _ => some out) (fun k => ?_) (Ev.now _), by omega, hx⟩
      · simp only [impl_LayersOf.l0]
        rw [if_neg (by omega)]
      · simp only [spec_bdLayers.l0]
        rw [if_neg (by omega)]
theorem layers_both (l : List S26) : ∃ r : List (List S26) × Bool, Ev (fun k => impl_LayersOf.f k l) r ∧ Ev (fun k => spec_LayersOf.f k l) r ∧ r.1.length ≤ 1000 ∧ ∀ x ∈ r.1, x.length ≤ 100 := by
  have ha := areDifferent_ev l
  have hb := bdGood_ev l
  by_cases h : Diff (pgs l)
  · have h30 := h.n30
    rw [pgs_length] at h30
    rw [dec_true h] at ha hb
    obtain ⟨r, h1, h2, h3⟩ := layers_loop 100 l [] (by omega) (Nat.le_refl _) (fun p hp => h.pegs _ (List.mem_map_of_mem hp)) (by simp) (by simp)
    refine ⟨(r, true), ?_, ?_, h3⟩
    · refine Ev.congr (f := fun k => (impl_AreDifferent.f k l).bind fun t => (if t = true then (impl_LayersOf.l0 k l ([] : List (List S26))) else (some (([] : List (List S26)), false)))) (fun k => rfl) (Ev.bind ha ?_)
      exact Ev.congr (fun k => if_pos rfl) h1
    · refine Ev.congr (f := fun k => (spec_bdGood.f k l).bind fun t => (if t = true then ((spec_bdLayers.f k l).bind fun t2 => (some (t2, true))) else (some (([] : List (List S26)), false)))) (fun k => rfl) (Ev.bind hb ?_)
      exact Ev.congr (fun k => if_pos rfl) (Ev.bind h2 (Ev.now _))
  · rw [dec_false h] at ha hb
    refine ⟨([], false), ?_, ?_, by simp, by simp⟩
    · refine Ev.congr (f := fun k => (impl_AreDifferent.f k l).bind fun t => (if t = true then (impl_LayersOf.l0 k l ([] : List (List S26))) else (some (([] : List (List S26)), false)))) (fun k => rfl) (Ev.bind ha ?_)
      exact Ev.congr (fun k => if_neg (by simp)) (Ev.now _)
    · refine Ev.congr (f := fun k => (spec_bdGood.f k l).bind fun t => (if t = true then ((spec_bdLayers.f k l).bind fun t2 => (some (t2, true))) else (some (([] : List (List S26)), false)))) (fun k => rfl) (Ev.bind hb ?_)
      exact Ev.congr (fun k => if_neg (by simp)) (Ev.now _)
end Go.Proofs.Ytphpdfcblchpnaa.D
