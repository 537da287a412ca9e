/- Parts of the proof: printed texts, words and own texts, cut to what is used. -/
import Derived.Lib.SliceRun
import Derived.Test.YtphpdfcblchpnaaZL4
namespace Go.Proofs.Ytphpdfcblchpnaa.Q
open Go.RowKit Go.Proofs.YtphpdfcblchpnaaW.PrintWords Go.Proofs.YtphpdfcblchpnaaW.PrintLast Go.Proofs.YtphpdfcblchpnaaW.PrintMore
attribute [local go_sem] max2_int min2_int max_two min_two max_three min_three max_four min_four   -- for this text's walks alone
set_option linter.unusedVariables false
set_option linter.unusedSimpArgs false
mutual
def impl_AreDifferent.j0 : Nat → List (S26) → Bool → Option (Bool)
 | 0, _, _ => none
 | k + 1, x0, x13 => if x13 = true then (some false) else (impl_AreDifferent.l0 k x0 x0 (x0.length : Int) 0)
def impl_AreDifferent.l0 : Nat → List (S26) → List (S26) → Int → Int → Option (Bool)
 | 0, _, _, _, _ => none
 | k + 1, x0, x14, x15, x16 => if x16 < x15 then (if 0 ≤ x16 then (if x16 < (x14.length : Int) then (if x16 ≤ (x0.length : Int) then ((impl_Peg_172.f k (x0.take (x16 : Int).toNat) ((rd_T26 x14 x16).f0) ((rd_T26 x14 x16).f1)).bind fun t2115 => (if t2115 = true then (some false) else (impl_AreDifferent.l0 k x0 x14 x15 (wrap64 (x16 + 1))))) else (none)) else (none)) else (none)) else (some true)
end
def impl_AreDifferent.f (k : Nat) (l0 : List (S26)) : Option (Bool) := (impl_within.f (l0.length : Int) 1 30).bind fun t2107 => (if t2107 = true then ((impl_arePegs.f k l0).bind fun t2108 => (impl_AreDifferent.j0 k l0 (!t2108))) else (impl_AreDifferent.j0 k l0 true))
set_option maxHeartbeats 8000000 in
set_option maxRecDepth 100000 in
theorem impl_AreDifferent.calls (k : Nat) (A0 : Option Addr) (c0 : Nat) (l0 : List (S26)) (r : Bool) (w : World) (hr0 : Kd.C k26 w A0 l0.length l0) (hc0 : l0.length ≤ c0) (h : impl_AreDifferent.f k l0 = some r) :
  Calls Try.prog 213 #[.slice A0 l0.length c0] w fun e w' => e = .returned (.bool r) ∧ Below w.heap.size w w' := by
 have hu26 := Try.underlying26
 have HR0 := Aside0.mk hr0
 have HC0 := Aside0.mk hc0
 clear hr0 hc0
 have HB := Aside0.mk (Below.refl w.heap.size w)
 have H : ((impl_within.f (l0.length : Int) 1 30).bind fun t2107 => (if t2107 = true then ((impl_arePegs.f k l0).bind fun t2108 => (impl_AreDifferent.j0 k l0 (!t2108))) else (impl_AreDifferent.j0 k l0 true))) = some r := h
 clear h
 have HC2 := Aside0.mk H
 clear H
 go_enter Try.func213, Try.ntmps213
 go_upto_region 1 with (fail)
 go_cut [13] (fun v13 wc => ∃ (kq : Nat) (x13_1 : Bool), v13 = .bool x13_1 ∧ Aside0 (impl_AreDifferent.j0 kq l0 x13_1 = some r) ∧ Aside0 (kq ≤ k) ∧ Aside0 (Below w.heap.size w wc))
 case first =>
  have H := HC2.out
  clear HC2
  replace H := Option.bind_eq_some_iff.mp H
  obtain ⟨t2107, A30, H⟩ := H
  replace H : (if t2107 = true then ((impl_arePegs.f k l0).bind fun t2108 => (impl_AreDifferent.j0 k l0 (!t2108))) else (impl_AreDifferent.j0 k l0 true)) = some r := H
  have A3 := Aside0.mk A30
  clear A30
  by_cases c4 : t2107 = true
  ·subst c4
   have H1 : ((impl_arePegs.f k l0).bind fun t2108 => (impl_AreDifferent.j0 k l0 (!t2108))) = some r := by rw [if_pos rfl] at H; exact H
   clear H
   have H := H1
   clear H1
   replace H := Option.bind_eq_some_iff.mp H
   obtain ⟨t2108, A50, H⟩ := H
   replace H : (impl_AreDifferent.j0 k l0 (!t2108)) = some r := H
   have A5 := Aside0.mk A50
   clear A50
   have H' := Aside0.mk H
   clear H
   go_wp2_with (first | ((with_reducible refine gate_callee (f := 135) rfl ?_); refine goesL_ (some 7) rfl rfl Try.func135 (by kernel_rfl) rfl #[.int .i64 (l0.length : Int), .int .i64 1, .int .i64 30] rfl zn ?_; (with_reducible refine (impl_within.calls (l0.length : Int) 1 30 true _ A3.out).mono ?_); rintro e w' ⟨rfl, ⟨nd, rfl⟩⟩; refine ⟨_, rfl, ?_⟩) | (go_at_call 171; (with_reducible refine (impl_arePegs.calls k _ _ l0 t2108 _ ?side1 ?side2 A5.out).mono ?_); (case side1 => repeat (first | exact (Kd.C_below HR0.out zb) | (with_reducible refine Kd.C_alloc ?_ _) | (with_reducible refine Kd.C_drewN ?_ _) | (with_reducible refine Kd.C_drew ?_))); (case side2 => exact HC0.out); rintro e w6 ⟨rfl, hb⟩; have n0_ := Aside0.mk (below_step zb hb); clear HB; have HB := n0_; clear n0_; (try clear hb); (try clear hb2); (try clear hk); (try clear hi)))
   go_meet
   case rel => exact ⟨_, (!t2108), (by first | rfl | (simp; done) | (simp [*]; done)), H', ⟨by first | omega | exact Nat.le_refl _⟩, ⟨zb⟩⟩
  ·replace c4 := Bool.eq_false_iff.mpr c4
   subst c4
   have H1 : (impl_AreDifferent.j0 k l0 true) = some r := by rw [if_neg (show ¬ (false = true) by decide)] at H; exact H
   clear H
   have H := H1
   clear H1
   have H' := Aside0.mk H
   clear H
   go_wp2_with (first | ((with_reducible refine gate_callee (f := 135) rfl ?_); refine goesL_ (some 7) rfl rfl Try.func135 (by kernel_rfl) rfl #[.int .i64 (l0.length : Int), .int .i64 1, .int .i64 30] rfl zn ?_; (with_reducible refine (impl_within.calls (l0.length : Int) 1 30 false _ A3.out).mono ?_); rintro e w' ⟨rfl, ⟨nd, rfl⟩⟩; refine ⟨_, rfl, ?_⟩))
   go_meet
   case rel => exact ⟨_, (true), (by first | rfl | (simp; done) | (simp [*]; done)), H', ⟨by first | omega | exact Nat.le_refl _⟩, ⟨zb⟩⟩
 case rest =>
  clear HC2
  try clear c1
  try clear c2
  try clear p2
  try clear c4
  obtain ⟨kq, x13_1, rfl, HA, HJ1, HB⟩ := hcut
  cases kq with
  | zero => exact absurd HA.out (by simp [impl_AreDifferent.j0])
  | succ kj1 =>
   have H := HA.out
   clear HA
   simp only [impl_AreDifferent.j0] at H
   by_cases c7 : x13_1 = true
   ·subst c7
    have H1 : (some false) = some r := by rw [if_pos rfl] at H; exact H
    clear H
    have H := H1
    clear H1
    obtain rfl := Option.some.inj H
    go_wp2
    go_ret
    exact ⟨by first | rfl | (simp [errW_none, errW_some] <;> rfl) | (simp [*, errW_none, errW_some] <;> rfl), zb⟩
   ·replace c7 := Bool.eq_false_iff.mpr c7
    subst c7
    have H1 : (impl_AreDifferent.l0 kj1 l0 l0 (l0.length : Int) 0) = some r := by rw [if_neg (show ¬ (false = true) by decide)] at H; exact H
    clear H
    have H := H1
    clear H1
    have H' := Aside0.mk H
    clear H
    go_wp2
    go_loopg [16] kj1 (fun kq v16 w' => ∃ (x16_2 : Int), v16 = .int .i64 x16_2 ∧ Aside0 (impl_AreDifferent.l0 kq l0 l0 (l0.length : Int) x16_2 = some r) ∧ Aside0 (kq ≤ kj1) ∧ Aside0 (Below w.heap.size w w'))
    case atStart => exact ⟨(0), (by first | rfl | (simp; done) | (simp [*]; done)), H', ⟨Nat.le_refl _⟩, ⟨zb⟩⟩
    case round =>
     clear H'
     try clear c1
     try clear c2
     try clear p2
     try clear c4
     try clear c7
     try clear p2
     obtain ⟨x16_2, rfl, HA, HK2, HB⟩ := hrel
     cases gk with
     | zero => exact absurd HA.out (by simp [impl_AreDifferent.l0])
     | succ k2 =>
      have H := HA.out
      clear HA
      simp only [impl_AreDifferent.l0] at H
      by_cases c8 : x16_2 < (l0.length : Int)
      ·rw [if_pos c8] at H
       have c8b0 : decide (x16_2 < (l0.length : Int)) = true := decide_eq_true c8
       clear c8
       by_cases c9 : 0 ≤ x16_2
       ·rw [if_pos c9] at H
        have c9b0 : decide (0 ≤ x16_2) = true := decide_eq_true c9
        clear c9
        by_cases c10 : x16_2 < (l0.length : Int)
        ·rw [if_pos c10] at H
         have c10b0 : decide (x16_2 < (l0.length : Int)) = true := decide_eq_true c10
         clear c10
         have c11b0 := eq_true (of_decide_eq_true (by first | (with_reducible assumption) | assumption) : 0 ≤ x16_2)
         by_cases c12 : x16_2 ≤ (l0.length : Int)
         ·rw [if_pos c12] at H
          have c12b0 := eq_true c12
          have c12b1 : decide (x16_2 ≤ (l0.length : Int)) = true := decide_eq_true c12
          clear c12
          obtain ⟨y2111, hy2111⟩ : ∃ y_ : List (S26), y_ = (l0.take (x16_2 : Int).toNat) := ⟨_, rfl⟩
          replace H : ((impl_Peg_172.f k2 y2111 ((rd_T26 l0 x16_2).f0) ((rd_T26 l0 x16_2).f1)).bind fun t2115 => (if t2115 = true then (some false) else (impl_AreDifferent.l0 k2 l0 l0 (l0.length : Int) (wrap64 (x16_2 + 1))))) = some r := by first | (rw [hy2111]; with_reducible exact H) | (have H2_ := (Option.bind_some _ _).symm.trans H; rw [hy2111]; with_reducible exact H2_) | (have H2_ := (Option.bind_some _ _).symm.trans H; with_reducible exact H2_) | with_reducible exact H | (rw [hy2111]; exact H) | exact H
          have Ny2111 := Aside0.mk hy2111
          clear hy2111
          replace H := Option.bind_eq_some_iff.mp H
          obtain ⟨t2115, A130, H⟩ := H
          replace H : (if t2115 = true then (some false) else (impl_AreDifferent.l0 k2 l0 l0 (l0.length : Int) (wrap64 (x16_2 + 1)))) = some r := H
          have A13 := Aside0.mk A130
          clear A130
          by_cases c14 : t2115 = true
          ·subst c14
           have H1 : (some false) = some r := by rw [if_pos rfl] at H; exact H
           clear H
           have H := H1
           clear H1
           obtain rfl := Option.some.inj H
           have p2109 : 0 ≤ (x16_2 : Int) := of_decide_eq_true (by first | (with_reducible assumption) | assumption)
           have q2109 : x16_2 < (l0.length : Int) := of_decide_eq_true (by first | (with_reducible assumption) | assumption)
           obtain ⟨ad2109, e2109, hx2109_0, hx2109_1⟩ := at_T26 HR0.out x16_2 p2109 q2109
           cases e2109
           replace hx2109_0 := zc HB hx2109_0
           replace hx2109_1 := zc HB hx2109_1
           replace p2109 := eq_true p2109
           replace q2109 := eq_true q2109
           try go_wp2_with (first | ((with_reducible refine gate_dst (N := 4) rfl ?_); refine box_event ?hg (N := 4) ?hd (cs := #[.int .i64 0, .int .i64 0]) (t := 26) ?hr ?_; (case hd => rfl); (case hg => rfl); (case hr => first | (go_simp; done) | (go_simp; rfl)); intro gb2110 hg w15 hbox hb; have n0_ := Aside0.mk (below_step zb hb); have n1_ := Aside0.mk (hbox); have n2_ := Aside0.mk ((by rw [hg]; exact (below_size zb) : w.heap.size ≤ gb2110)); have n3_ := Aside0.mk ((by rw [hg]; exact (below_size zb) : w.heap.size ≤ gb2110)); clear HB; have HB := n0_; have BK2110 := n1_; have GW2110 := n2_; have GE2110 := n3_; clear n0_ n1_ n2_ n3_; clear hb hbox hg; have hcz16_0 : w15.cell? ⟨gb2110, 0, none⟩ = some (.int .i64 0) := (blk_cell BK2110.out 0).trans rfl; have hcz16_1 : w15.cell? ⟨gb2110, 1, none⟩ = some (.int .i64 0) := (blk_cell BK2110.out 1).trans rfl; have hfz16_0 := blk_frozen BK2110.out 0; have hfz16_1 := blk_frozen BK2110.out 1))
           have n0_ : Aside0 (((w15.setCell ⟨gb2110, 0, none⟩ (.int .i64 ((rd_T26 l0 x16_2).f0))).setCell ⟨gb2110, 1, none⟩ (.int .i64 ((rd_T26 l0 x16_2).f1))).heap[gb2110]? = some (.cells #[.int .i64 ((rd_T26 l0 x16_2).f0), .int .i64 ((rd_T26 l0 x16_2).f1)] 26 (0, 0))) := ⟨by (with_reducible repeat (first | refine blk_drewN ?_ _ | refine blk_drew ?_ | refine blk_alloc ?_ _)); refine blk_put (cs := #[.int .i64 ((rd_T26 l0 x16_2).f0), .int .i64 0]) ?_ 1 _ rfl; (with_reducible repeat (first | refine blk_drewN ?_ _ | refine blk_drew ?_ | refine blk_alloc ?_ _)); refine blk_put (cs := #[.int .i64 0, .int .i64 0]) ?_ 0 _ rfl; (with_reducible repeat (first | refine blk_drewN ?_ _ | refine blk_drew ?_ | refine blk_alloc ?_ _)); exact BK2110.out⟩
           have n1_ : Aside0 (Below w.heap.size w ((w15.setCell ⟨gb2110, 0, none⟩ (.int .i64 ((rd_T26 l0 x16_2).f0))).setCell ⟨gb2110, 1, none⟩ (.int .i64 ((rd_T26 l0 x16_2).f1)))) := ⟨zb⟩
           (try clear BK2110)
           (try clear HB)
           generalize ((w15.setCell ⟨gb2110, 0, none⟩ (.int .i64 ((rd_T26 l0 x16_2).f0))).setCell ⟨gb2110, 1, none⟩ (.int .i64 ((rd_T26 l0 x16_2).f1))) = w17 at n0_ n1_ ⊢
           have BK2110 := n0_
           have HB := n1_
           clear n0_ n1_
           have n0_ := Aside0.mk (blk_drew BK2110.out)
           have n1_ := Aside0.mk (below_drew1 HB.out)
           clear BK2110
           clear HB
           have BK2110 := n0_
           have HB := n1_
           clear n0_ n1_
           have q19 : (x16_2 : Int) ≤ ((l0.length : Int) : Int) := of_decide_eq_true (by first | (with_reducible assumption) | assumption)
           obtain ⟨i019, hi019, _, hsz19, _⟩ := info_parts info26
           have hroom19 : l0.length ≤ c0 := HC0.out
           have hC19 : Kd.C k26 _ (some ad2109) l0.length l0 := HR0.out
           have hcut19 := cut_to (P := Try.prog) 24 26 .i64 Try.underlying24 hi019 (some ad2109) l0.length c0 x16_2 (of_decide_eq_true (by first | (with_reducible assumption) | assumption)) q19 hroom19
           have hr19 := Kd.C_take (m := (x16_2 : Int).toNat) hC19 (by omega)
           have hy19 : y2111.length = (x16_2 : Int).toNat := (by rw [Ny2111.out, List.length_take]; omega)
           rw [← Ny2111.out] at hr19
           rw [← hy19] at hcut19
           have HR2114 := Aside0.mk hr19
           have HC2114 := Aside0.mk (show y2111.length ≤ c0 from by omega)
           clear hr19 hC19 hroom19 hi019 hsz19
           have KY19 := Aside0.mk hy19
           clear hy19
           replace q19 := eq_true q19
           refine start_ (n := 5) (S := fun w' => w'.cell? ⟨gb2110, 0, none⟩ = some (.int .i64 ((rd_T26 l0 x16_2).f0)) ∧ w'.cell? ⟨gb2110, 1, none⟩ = some (.int .i64 ((rd_T26 l0 x16_2).f1))) (ds := []) (zl 5 0) (by kernel_rfl) rfl rfl ⟨(blk_cell BK2110.out 0).trans rfl, (blk_cell BK2110.out 1).trans rfl⟩ (fun hHeld => ?_)
           generalize w17.drew = w18 at BK2110 HB HR2114 hHeld ⊢
           refine pure_ (i := 0) (N := some 21) (v := ?_) (a' := ?_) (zl 5 1) rfl rfl (by kernel_rfl) (fun _ _ _ h => h) (Or.inl ⟨by rfl, ?_⟩) ?_ ?_
           rotate_left
           ·intro w'
            go_simp
            with_reducible rfl
           rotate_left
           ·exact zs
           refine pure_ (i := 1) (N := some 22) (v := ?_) (a' := ?_) (zl 5 3) rfl rfl (by kernel_rfl) (fun _ _ _ h => h) (Or.inl ⟨by rfl, ?_⟩) ?_ ?_
           rotate_left
           ·intro w'
            go_simp
            with_reducible rfl
           rotate_left
           ·exact zs
           refine pure_ (i := 2) (N := some 23) (v := ?_) (a' := ?_) (zl 5 7) rfl rfl (by kernel_rfl) (fun _ _ _ h => h) (Or.inl ⟨by rfl, ?_⟩) ?_ ?_
           rotate_left
           ·intro w'
            go_simp
            with_reducible rfl
           rotate_left
           ·exact zs
           refine take_ (i := 3) (N := some 24) (v := ?_) (a' := ?_) (zl 5 15) rfl rfl (by kernel_rfl) (fun _ _ _ h => h) (Or.inl ⟨by rfl, ?_⟩) hHeld ?_ ?_
           rotate_left
           ·rintro w' ⟨s0, s1⟩
            go_simp
            with_reducible rfl
           rotate_left
           ·exact zs
           refine one_ (i := 4) (N := some 25) (zl 5 31) rfl rfl (by kernel_rfl) (by decide) (fun K hK => ?_)
           refine goes_ Try.func172 (by kernel_rfl) rfl #[.slice (some ad2109) y2111.length c0, .agg #[.int .i64 ((rd_T26 l0 x16_2).f0), .int .i64 ((rd_T26 l0 x16_2).f1)]] (by rfl) rfl rfl zn ?_
           with_reducible refine (impl_Peg_172.calls k2 _ _ y2111 ((rd_T26 l0 x16_2).f0) ((rd_T26 l0 x16_2).f1) true _ ?side1 ?side2 A13.out).mono ?_
           (case side1 => repeat (first | exact (Kd.C_below HR2114.out HB.out) | (with_reducible refine Kd.C_alloc ?_ _) | (with_reducible refine Kd.C_drewN ?_ _) | (with_reducible refine Kd.C_drew ?_)))
           (case side2 => exact HC2114.out)
           rintro e w20 ⟨rfl, hb⟩
           refine ⟨_, rfl, ?_⟩
           have n0_ := Aside0.mk (blk_below (g := gb2110) (o := .cells #[.int .i64 ((rd_T26 l0 x16_2).f0), .int .i64 ((rd_T26 l0 x16_2).f1)] 26 (0, 0)) zk hb)
           have n1_ := Aside0.mk (below_step zb hb)
           clear BK2110
           clear HB
           have BK2110 := n0_
           have HB := n1_
           clear n0_ n1_
           (try clear hb)
           (try clear hb2)
           (try clear hk)
           (try clear hi)
           refine hK.out _ _ ⟨(blk_cell BK2110.out 0).trans rfl, (blk_cell BK2110.out 1).trans rfl⟩ (fun hHeld => ?_)
           clear hK K
           refine norm_ (a' := ?_) ?_ ?_
           rotate_left
           ·show Act.put _ (some 25) _ = _
            exact zs
           refine done_ (by kernel_rfl) ?_
           try go_wp2
           go_ret
           exact ⟨by first | rfl | (simp [errW_none, errW_some] <;> rfl) | (simp [*, errW_none, errW_some] <;> rfl), zb⟩
          ·replace c14 := Bool.eq_false_iff.mpr c14
           subst c14
           have H1 : (impl_AreDifferent.l0 k2 l0 l0 (l0.length : Int) (wrap64 (x16_2 + 1))) = some r := by rw [if_neg (show ¬ (false = true) by decide)] at H; exact H
           clear H
           have H := H1
           clear H1
           have H' := Aside0.mk H
           clear H
           have p2109 : 0 ≤ (x16_2 : Int) := of_decide_eq_true (by first | (with_reducible assumption) | assumption)
           have q2109 : x16_2 < (l0.length : Int) := of_decide_eq_true (by first | (with_reducible assumption) | assumption)
           obtain ⟨ad2109, e2109, hx2109_0, hx2109_1⟩ := at_T26 HR0.out x16_2 p2109 q2109
           cases e2109
           replace hx2109_0 := zc HB hx2109_0
           replace hx2109_1 := zc HB hx2109_1
           replace p2109 := eq_true p2109
           replace q2109 := eq_true q2109
           try go_wp2_with (first | ((with_reducible refine gate_dst (N := 4) rfl ?_); refine box_event ?hg (N := 4) ?hd (cs := #[.int .i64 0, .int .i64 0]) (t := 26) ?hr ?_; (case hd => rfl); (case hg => rfl); (case hr => first | (go_simp; done) | (go_simp; rfl)); intro gb2110 hg w21 hbox hb; have n0_ := Aside0.mk (below_step zb hb); have n1_ := Aside0.mk (hbox); have n2_ := Aside0.mk ((by rw [hg]; exact (below_size zb) : w.heap.size ≤ gb2110)); have n3_ := Aside0.mk ((by rw [hg]; exact (below_size zb) : w.heap.size ≤ gb2110)); clear HB; have HB := n0_; have BK2110 := n1_; have GW2110 := n2_; have GE2110 := n3_; clear n0_ n1_ n2_ n3_; clear hb hbox hg; have hcz22_0 : w21.cell? ⟨gb2110, 0, none⟩ = some (.int .i64 0) := (blk_cell BK2110.out 0).trans rfl; have hcz22_1 : w21.cell? ⟨gb2110, 1, none⟩ = some (.int .i64 0) := (blk_cell BK2110.out 1).trans rfl; have hfz22_0 := blk_frozen BK2110.out 0; have hfz22_1 := blk_frozen BK2110.out 1))
           have n0_ : Aside0 (((w21.setCell ⟨gb2110, 0, none⟩ (.int .i64 ((rd_T26 l0 x16_2).f0))).setCell ⟨gb2110, 1, none⟩ (.int .i64 ((rd_T26 l0 x16_2).f1))).heap[gb2110]? = some (.cells #[.int .i64 ((rd_T26 l0 x16_2).f0), .int .i64 ((rd_T26 l0 x16_2).f1)] 26 (0, 0))) := ⟨by (with_reducible repeat (first | refine blk_drewN ?_ _ | refine blk_drew ?_ | refine blk_alloc ?_ _)); refine blk_put (cs := #[.int .i64 ((rd_T26 l0 x16_2).f0), .int .i64 0]) ?_ 1 _ rfl; (with_reducible repeat (first | refine blk_drewN ?_ _ | refine blk_drew ?_ | refine blk_alloc ?_ _)); refine blk_put (cs := #[.int .i64 0, .int .i64 0]) ?_ 0 _ rfl; (with_reducible repeat (first | refine blk_drewN ?_ _ | refine blk_drew ?_ | refine blk_alloc ?_ _)); exact BK2110.out⟩
           have n1_ : Aside0 (Below w.heap.size w ((w21.setCell ⟨gb2110, 0, none⟩ (.int .i64 ((rd_T26 l0 x16_2).f0))).setCell ⟨gb2110, 1, none⟩ (.int .i64 ((rd_T26 l0 x16_2).f1)))) := ⟨zb⟩
           (try clear BK2110)
           (try clear HB)
           generalize ((w21.setCell ⟨gb2110, 0, none⟩ (.int .i64 ((rd_T26 l0 x16_2).f0))).setCell ⟨gb2110, 1, none⟩ (.int .i64 ((rd_T26 l0 x16_2).f1))) = w23 at n0_ n1_ ⊢
           have BK2110 := n0_
           have HB := n1_
           clear n0_ n1_
           have n0_ := Aside0.mk (blk_drew BK2110.out)
           have n1_ := Aside0.mk (below_drew1 HB.out)
           clear BK2110
           clear HB
           have BK2110 := n0_
           have HB := n1_
           clear n0_ n1_
           have q25 : (x16_2 : Int) ≤ ((l0.length : Int) : Int) := of_decide_eq_true (by first | (with_reducible assumption) | assumption)
           obtain ⟨i025, hi025, _, hsz25, _⟩ := info_parts info26
           have hroom25 : l0.length ≤ c0 := HC0.out
           have hC25 : Kd.C k26 _ (some ad2109) l0.length l0 := HR0.out
           have hcut25 := cut_to (P := Try.prog) 24 26 .i64 Try.underlying24 hi025 (some ad2109) l0.length c0 x16_2 (of_decide_eq_true (by first | (with_reducible assumption) | assumption)) q25 hroom25
           have hr25 := Kd.C_take (m := (x16_2 : Int).toNat) hC25 (by omega)
           have hy25 : y2111.length = (x16_2 : Int).toNat := (by rw [Ny2111.out, List.length_take]; omega)
           rw [← Ny2111.out] at hr25
           rw [← hy25] at hcut25
           have HR2114 := Aside0.mk hr25
           have HC2114 := Aside0.mk (show y2111.length ≤ c0 from by omega)
           clear hr25 hC25 hroom25 hi025 hsz25
           have KY25 := Aside0.mk hy25
           clear hy25
           replace q25 := eq_true q25
           refine start_ (n := 5) (S := fun w' => w'.cell? ⟨gb2110, 0, none⟩ = some (.int .i64 ((rd_T26 l0 x16_2).f0)) ∧ w'.cell? ⟨gb2110, 1, none⟩ = some (.int .i64 ((rd_T26 l0 x16_2).f1))) (ds := []) (zl 5 0) (by kernel_rfl) rfl rfl ⟨(blk_cell BK2110.out 0).trans rfl, (blk_cell BK2110.out 1).trans rfl⟩ (fun hHeld => ?_)
           generalize w23.drew = w24 at BK2110 HB HR2114 hHeld ⊢
           refine pure_ (i := 0) (N := some 21) (v := ?_) (a' := ?_) (zl 5 1) rfl rfl (by kernel_rfl) (fun _ _ _ h => h) (Or.inl ⟨by rfl, ?_⟩) ?_ ?_
           rotate_left
           ·intro w'
            go_simp
            with_reducible rfl
           rotate_left
           ·exact zs
           refine pure_ (i := 1) (N := some 22) (v := ?_) (a' := ?_) (zl 5 3) rfl rfl (by kernel_rfl) (fun _ _ _ h => h) (Or.inl ⟨by rfl, ?_⟩) ?_ ?_
           rotate_left
           ·intro w'
            go_simp
            with_reducible rfl
           rotate_left
           ·exact zs
           refine pure_ (i := 2) (N := some 23) (v := ?_) (a' := ?_) (zl 5 7) rfl rfl (by kernel_rfl) (fun _ _ _ h => h) (Or.inl ⟨by rfl, ?_⟩) ?_ ?_
           rotate_left
           ·intro w'
            go_simp
            with_reducible rfl
           rotate_left
           ·exact zs
           refine take_ (i := 3) (N := some 24) (v := ?_) (a' := ?_) (zl 5 15) rfl rfl (by kernel_rfl) (fun _ _ _ h => h) (Or.inl ⟨by rfl, ?_⟩) hHeld ?_ ?_
           rotate_left
           ·rintro w' ⟨s0, s1⟩
            go_simp
            with_reducible rfl
           rotate_left
           ·exact zs
           refine one_ (i := 4) (N := some 25) (zl 5 31) rfl rfl (by kernel_rfl) (by decide) (fun K hK => ?_)
           refine goes_ Try.func172 (by kernel_rfl) rfl #[.slice (some ad2109) y2111.length c0, .agg #[.int .i64 ((rd_T26 l0 x16_2).f0), .int .i64 ((rd_T26 l0 x16_2).f1)]] (by rfl) rfl rfl zn ?_
           with_reducible refine (impl_Peg_172.calls k2 _ _ y2111 ((rd_T26 l0 x16_2).f0) ((rd_T26 l0 x16_2).f1) false _ ?side1 ?side2 A13.out).mono ?_
           (case side1 => repeat (first | exact (Kd.C_below HR2114.out HB.out) | (with_reducible refine Kd.C_alloc ?_ _) | (with_reducible refine Kd.C_drewN ?_ _) | (with_reducible refine Kd.C_drew ?_)))
           (case side2 => exact HC2114.out)
           rintro e w26 ⟨rfl, hb⟩
           refine ⟨_, rfl, ?_⟩
           have n0_ := Aside0.mk (blk_below (g := gb2110) (o := .cells #[.int .i64 ((rd_T26 l0 x16_2).f0), .int .i64 ((rd_T26 l0 x16_2).f1)] 26 (0, 0)) zk hb)
           have n1_ := Aside0.mk (below_step zb hb)
           clear BK2110
           clear HB
           have BK2110 := n0_
           have HB := n1_
           clear n0_ n1_
           (try clear hb)
           (try clear hb2)
           (try clear hk)
           (try clear hi)
           refine hK.out _ _ ⟨(blk_cell BK2110.out 0).trans rfl, (blk_cell BK2110.out 1).trans rfl⟩ (fun hHeld => ?_)
           clear hK K
           refine norm_ (a' := ?_) ?_ ?_
           rotate_left
           ·show Act.put _ (some 25) _ = _
            exact zs
           refine done_ (by kernel_rfl) ?_
           try go_wp2
           go_roundg k2
           case measure => have := HJ1.out; have := HK2.out; omega
           case rel => exact ⟨(wrap64 (x16_2 + 1)), (by first | rfl | (simp; done) | (simp [*]; done)), H', ⟨by have := HJ1.out; have := HK2.out; omega⟩, ⟨zb⟩⟩
         ·rw [if_neg c12] at H
          exact absurd H (by simp)
        ·rw [if_neg c10] at H
         exact absurd H (by simp)
       ·rw [if_neg c9] at H
        exact absurd H (by simp)
      ·rw [if_neg c8] at H
       have c8b0 : decide (x16_2 < (l0.length : Int)) = false := decide_eq_false c8
       clear c8
       obtain rfl := Option.some.inj H
       go_wp2
       go_ret
       exact ⟨by first | rfl | (simp [errW_none, errW_some] <;> rfl) | (simp [*, errW_none, errW_some] <;> rfl), zb⟩
def impl_Peg_255.f (l0 : List (S26)) : Option ((List (S26))) := (some (([] : List (S26)) : List (S26))).bind fun y2116 => (if y2116.length + l0.length < 8796093022208 then (some (y2116 ++ l0)) else (none))
set_option maxHeartbeats 8000000 in
set_option maxRecDepth 100000 in
theorem impl_Peg_255.calls_some (ad0 : Addr) (c0 : Nat) (l0 : List (S26)) (r : List (S26)) (w : World) (hr0 : Kd.C k26 w (some ad0) l0.length l0) (hc0 : l0.length ≤ c0) (h : impl_Peg_255.f l0 = some r) :
  Calls Try.prog 255 #[.slice (some ad0) l0.length c0] w fun e w' => ∃ v0_ : Value, e = .returned (v0_) ∧ Kd.R k26 26 w' w.heap.size (fun _ => True) v0_ r ∧ Below w.heap.size w w' := by
 have HR0 := Aside0.mk hr0
 have HC0 := Aside0.mk hc0
 clear hr0 hc0
 have HB := Aside0.mk (Below.refl w.heap.size w)
 have H : ((some (([] : List (S26)) : List (S26))).bind fun y2116 => (if y2116.length + l0.length < 8796093022208 then (some (y2116 ++ l0)) else (none))) = some r := h
 clear h
 obtain ⟨y2116, hy2116⟩ : ∃ y_ : List (S26), y_ = (([] : List (S26))) := ⟨_, rfl⟩
 replace H : (if y2116.length + l0.length < 8796093022208 then (some (y2116 ++ l0)) else (none)) = some r := by first | (rw [hy2116]; with_reducible exact H) | (have H2_ := (Option.bind_some _ _).symm.trans H; rw [hy2116]; with_reducible exact H2_) | (have H2_ := (Option.bind_some _ _).symm.trans H; with_reducible exact H2_) | with_reducible exact H | (rw [hy2116]; exact H) | exact H
 have Ny2116 := Aside0.mk hy2116
 clear hy2116
 by_cases c2 : y2116.length + l0.length < 8796093022208
 ·rw [if_pos c2] at H
  have LMc2 := Aside0.mk c2
  clear c2
  obtain ⟨y2119, hy2119⟩ : ∃ y_ : List (S26), y_ = (y2116 ++ l0) := ⟨_, rfl⟩
  replace H : (some y2119) = some r := by first | (rw [hy2119]; with_reducible exact H) | (have H2_ := (Option.bind_some _ _).symm.trans H; rw [hy2119]; with_reducible exact H2_) | (have H2_ := (Option.bind_some _ _).symm.trans H; with_reducible exact H2_) | with_reducible exact H | (rw [hy2119]; exact H) | exact H
  have Ny2119 := Aside0.mk hy2119
  clear hy2119
  obtain rfl := Option.some.inj H
  have q24 : ∀ (w : World) (a : Option Addr) (n c n' c' : Nat), (binOp .eql 24 (.slice a n c) (.slice none n' c')).run Try.prog w = .ok (.bool a.isNone) w := fun w a n c n' c' => Lib.run_eql_slice_nil w _ _ a n c n' c' Try.underlying24
  go_enter Try.func255, Try.ntmps255
  go_wp2_with (first | ((with_reducible refine gate_dst (N := 5) rfl ?_); refine Kd.R_lit k26 _ 26 ?hg (N := 5) ?hd (xs := ([] : List (S26))) (inner := []) (ok := fun _ => True) (okp := fun _ => True) ?hr ?hp (fun _ hk => hk) trivial (Below.refl _ _) (Nat.le_refl _) (by simp) ?_; (case hd => rfl); (case hg => rfl); (case hr => first | (go_simp; done) | (go_simp; rfl)); (case hp => exact (Reps.none _ _)); intro v2117 w3 ho4 hb hg_ hnew_; clear hg_ hnew_; (first | rw [← Ny2116.out] at ho4 | (simp only [Int.reduceToNat] at ho4; rw [← Ny2116.out] at ho4)); have n0_ := Aside0.mk (Kd.R_lower ho4 (below_size zb)); have n1_ := Aside0.mk (below_step zb hb); clear HB; have HO2118 := n0_; have HB := n1_; clear n0_ n1_; clear hb ho4) | ((with_reducible refine gate_builtin (b := .append) (xs := #[.tmp 5, .tmp 6]) rfl ?_); at_builtin; refine Kd.R_append_rows k26 (w0 := w) w.heap.size rfl (.tmp 5) (.tmp 6) 24 26 (.agg #[(.int .i64 0), (.int .i64 0)]) 16 rfl Try.underlying24 info26 rfl (by decide) (by omega) v2117 y2116 l0 _ _ _ (fun _ => True) (fun _ => False) rfl rfl ?aO ?aR (fun _ _ h => h) (fun _ h => h.elim) ?aF ?aB ?aS ?aL ?_; (case aR => repeat (first | exact (Kd.C_below HR0.out HB.out) | (with_reducible refine Kd.C_alloc ?_ _) | (with_reducible refine Kd.C_drewN ?_ _) | (with_reducible refine Kd.C_drew ?_))); (case aB => exact zb); (case aF => exact (fun _ _ => trivial)); (case aO => exact (by (with_reducible repeat (first | apply Kd.R_alloc | apply Kd.R_drewN | apply Kd.R_drew)); exact HO2118.out)); (case aS => exact (below_size zb)); (case aL => have := LMc2.out; omega); intro v2120 w5 ho hb hg hat; rw [← Ny2119.out] at ho; have n0_ := Aside0.mk (hb); have n1_ := Aside0.mk (ho); clear HB; clear HO2118; have HB := n0_; have HO2121 := n1_; clear n0_ n1_; clear ho hb hg hat))
  go_ret
  exact ⟨_, by first | rfl | (simp [errW_none, errW_some] <;> rfl) | (simp [*, errW_none, errW_some] <;> rfl), by (with_reducible repeat (first | apply Kd.R_alloc | apply Kd.R_drewN | apply Kd.R_drew)); exact HO2121.out, zb⟩
 ·rw [if_neg c2] at H
  exact absurd H (by simp)
set_option maxRecDepth 100000 in
theorem impl_Peg_255.calls (A0 : Option Addr) (c0 : Nat) (l0 : List (S26)) (r : List (S26)) (w : World) (hr0 : Kd.C k26 w A0 l0.length l0) (hc0 : l0.length ≤ c0) (h : impl_Peg_255.f l0 = some r) :
  Calls Try.prog 255 #[.slice A0 l0.length c0] w fun e w' => ∃ v0_ : Value, e = .returned (v0_) ∧ Kd.R k26 26 w' w.heap.size (fun _ => True) v0_ r ∧ Below w.heap.size w w' := by
 cases A0 with
 | some ad => exact impl_Peg_255.calls_some ad c0 l0 r w hr0 hc0 h
 | none =>
  have hl : l0.length = 0 := by
   false_or_by_contra
   rename_i hn
   obtain ⟨_, e, _⟩ := hr0.2.2 (Nat.pos_of_ne_zero hn)
   cases e
  have hl0 : l0 = [] := List.length_eq_zero_iff.1 hl
  subst hl0
  have hr : r = [] := by
   have h2 := h
   simp [impl_Peg_255.f] at h2
   exact h2
  subst hr
  clear h hl
  have q24 : ∀ (w : World) (a : Option Addr) (n c n' c' : Nat), (binOp .eql 24 (.slice a n c) (.slice none n' c')).run Try.prog w = .ok (.bool a.isNone) w := fun w a n c n' c' => Lib.run_eql_slice_nil w _ _ a n c n' c' Try.underlying24
  go_enter Try.func255, Try.ntmps255
  go_wp2
  all_goals
   go_ret
   exact ⟨_, rfl, Kd.R_nil _ _ _ _ _, by repeat (first | exact Below.refl _ _ | apply below_alloc)⟩
open Go.Proofs.YtphpdfcblchpnaaH in
def impl_sorted.f (l0 : List (S26)) : Option (List (S26)) := if 0 < l0.length ∧ l0.length ≤ 1000000 then some (sortPg l0) else none
open Go.Proofs.YtphpdfcblchpnaaH in
theorem impl_sorted.calls (A0 : Option Addr) (c0 : Nat) (l0 : List (S26)) (r : List (S26)) (w : World) (hr0 : Kd.C k26 w A0 l0.length l0) (hc0 : l0.length ≤ c0) (h : impl_sorted.f l0 = some r) :
  Calls Try.prog 214 #[.slice A0 l0.length c0] w fun e w' => ∃ v0_ : Value, e = .returned (v0_) ∧ Kd.R k26 26 w' w.heap.size (fun _ => True) v0_ r ∧ Below w.heap.size w w' := by
 unfold impl_sorted.f at h
 by_cases hl : 0 < l0.length ∧ l0.length ≤ 1000000
 ·rw [if_pos hl] at h
  obtain rfl := Option.some.inj h
  clear h
  have hclone := impl_Peg_255.calls A0 c0 l0 l0 w hr0 hc0 (by simp [impl_Peg_255.f]; omega)
  have eg : ∀ args w, (callFunc 249 args).run Try.prog w = .ok (.enter 249 args) w := enters_of Try.func249 (by kernel_rfl) rfl
  go_enter Try.func214, Try.ntmps214
  go_wp2_with fail
  refine hclone.mono ?_
  rintro e w1 ⟨v, rfl, hR, hB⟩
  have HR := Aside0.mk hR
  have HB := Aside0.mk hB
  clear hclone hr0 hc0 hR hB
  go_wp2_with fail
  refine (sort_calls 249 #[] cfPg swo_pg eg HR.out hl.1 (by omega) (fun W _ _ x y => comparePegs_grow x.f0 x.f1 y.f0 y.f1 W)).mono ?_
  rintro e w2 ⟨rfl, ys, hp, hs, hR2, hg⟩
  have HS := Aside0.mk hs
  have HP := Aside0.mk hp
  have HR2 := Aside0.mk hR2
  have HG := Aside0.mk hg
  clear hs hp hR2 hg
  go_wp2
  go_ret
  refine ⟨_, rfl, ?_, HB.out.grown HG.out HB.out.size (fun k hk => Kd.R_base HR.out k hk)⟩
  rw [← sortPg_unique HP.out (pairwise_of_getD (fun i j h1 h2 => HS.out i j h1 h2))]
  exact HR2.out
 ·rw [if_neg hl] at h
  cases h
def impl_Peg_219.l0 : Nat → List (S26) → Int → Int → Option ((List (S26)))
 | 0, _, _, _ => none
 | k + 1, x0, x2, x3 => if x2 < x3 then (if 0 ≤ x3 then (if x3 < (x0.length : Int) then (if 0 ≤ x2 then (if x2 < (x0.length : Int) then (impl_Peg_219.l0 k ((x0.set (x2 : Int).toNat (⟨(rd_T26 x0 x3).f0, (rd_T26 x0 x3).f1⟩ : S26)).set (x3 : Int).toNat (⟨(rd_T26 x0 x2).f0, (rd_T26 x0 x2).f1⟩ : S26)) (wrap64 (x2 + 1)) (wrap64 (x3 - 1))) else (none)) else (none)) else (none)) else (none)) else (some x0)
def impl_Peg_219.f (k : Nat) (l0 : List (S26)) : Option ((List (S26))) := impl_Peg_219.l0 k l0 0 (wrap64 ((l0.length : Int) - 1))
def impl_Peg_219.T3 : Bool × List (List Nat × List Nat) := (true, [([], []), ([], []), ([], []), ([], []), ([], []), ([], []), ([4, 5], [4, 5]), ([6], [6]), ([], []), ([], []), ([8, 9], [8, 9]), ([10], [10]), ([0, 1, 0, 1, 4, 5, 6, 7, 11], [0, 1]), ([12, 7, 0, 1, 4, 5, 6, 7, 11], [7, 12]), ([2, 3, 0, 1, 2, 3, 4, 5, 6, 7, 8, 9, 10, 11, 12, 13], [2, 3]), ([14, 11, 13, 0, 1, 2, 3, 4, 5, 6, 7, 8, 9, 10, 11, 12, 13], [11, 14])])
def impl_Peg_219.B3 : List Nat := [0, 0, 0, 0, 0, 0, 48, 112, 0, 0, 768, 1792, 4083, 8179, 16383, 32767]
theorem impl_Peg_219.tab3 : rtab .any (opsOf Try.f219 3) = impl_Peg_219.T3 := by kernel_rfl
theorem impl_Peg_219.bits3 : waitsOk impl_Peg_219.T3.2 impl_Peg_219.B3 = true := by kernel_rfl
set_option maxHeartbeats 8000000 in
set_option maxRecDepth 100000 in
theorem impl_Peg_219.calls (k : Nat) (P0_ : Nat → Prop) (u9000_ : Value) (l0 : List (S26)) (r : List (S26)) (w0 w : World) (hB : Below w0.heap.size w0 w) (ho0 : Kd.R k26 26 w w0.heap.size P0_ u9000_ l0) (h : impl_Peg_219.f k l0 = some r) :
  Calls Try.prog 219 #[u9000_] w fun e w' => e = .returned (.tuple #[]) ∧ Kd.R k26 26 w' w0.heap.size (fun k_ => (P0_ k_ ∨ w.heap.size ≤ k_)) u9000_ r ∧ Below w0.heap.size w0 w' ∧ Kept w w' (fun k_ => P0_ k_) := by
 have hu26 := Try.underlying26
 have HO0 := Aside0.mk (show Kd.R k26 26 w w0.heap.size (fun k_ => (P0_ k_ ∨ w.heap.size ≤ k_)) u9000_ l0 from Kd.R_mono ho0 (fun k_ hk => (.inl hk)))
 have HK := Aside0.mk (Kept.refl w (fun k_ => P0_ k_))
 have HW0 := Aside0.mk hB.size
 have HB := Aside0.mk hB
 clear hB
 have H : (impl_Peg_219.l0 k l0 0 (wrap64 ((l0.length : Int) - 1))) = some r := h
 clear h
 have H' := Aside0.mk H
 clear H
 obtain ⟨Ao2, co2, eo2⟩ := Kd.R_slice HO0.out
 subst eo2
 go_enter Try.func219, Try.ntmps219
 go_wp2
 go_loopg [2, 3] k (fun kq v2 v3 w' => ∃ (x0_1 : List (S26)) (x2_1 : Int) (x3_1 : Int), v2 = .int .i64 x2_1 ∧ v3 = .int .i64 x3_1 ∧ Aside0 (impl_Peg_219.l0 kq x0_1 x2_1 x3_1 = some r) ∧ Aside0 (kq ≤ k) ∧ Aside0 (Kd.R k26 26 w' w0.heap.size (fun k_ => (P0_ k_ ∨ w.heap.size ≤ k_)) (.slice Ao2 l0.length co2) x0_1) ∧ Aside0 (Kept w w' (fun k_ => P0_ k_)) ∧ Aside0 (Below w0.heap.size w0 w'))
 case atStart => exact ⟨(l0), (0), (wrap64 ((l0.length : Int) - 1)), (by first | rfl | (simp; done) | (simp [*]; done)), (by first | rfl | (simp; done) | (simp [*]; done)), H', ⟨Nat.le_refl _⟩, ⟨by (with_reducible repeat (first | apply Kd.R_alloc | apply Kd.R_drewN | apply Kd.R_drew)); exact HO0.out⟩, ⟨by repeat (first | (with_reducible first | exact HK.out | apply Kept.alloc | apply Kept.drewN | apply Kept.drew) | exact HK.out)⟩, ⟨zb⟩⟩
 case round =>
  clear H'
  try clear c2
  try clear p2
  obtain ⟨x0_1, x2_1, x3_1, rfl, rfl, HA, HK1, HO_0, HK, HB⟩ := hrel
  have hl0_1 := (Kd.R_reads' HO_0.out).1
  rw [hl0_1] at HO_0
  (try simp only [hl0_1])
  cases gk with
  | zero => exact absurd HA.out (by simp [impl_Peg_219.l0])
  | succ k1 =>
   have H := HA.out
   clear HA
   simp only [impl_Peg_219.l0] at H
   by_cases c3 : x2_1 < x3_1
   ·rw [if_pos c3] at H
    have c3b0 : decide (x2_1 < x3_1) = true := decide_eq_true c3
    clear c3
    by_cases c4 : 0 ≤ x3_1
    ·rw [if_pos c4] at H
     have c4b0 : decide (0 ≤ x3_1) = true := decide_eq_true c4
     clear c4
     by_cases c5 : x3_1 < (x0_1.length : Int)
     ·rw [if_pos c5] at H
      have c5b0 : decide (x3_1 < (x0_1.length : Int)) = true := decide_eq_true c5
      clear c5
      by_cases c6 : 0 ≤ x2_1
      ·rw [if_pos c6] at H
       have c6b0 : decide (0 ≤ x2_1) = true := decide_eq_true c6
       clear c6
       by_cases c7 : x2_1 < (x0_1.length : Int)
       ·rw [if_pos c7] at H
        have c7b0 : decide (x2_1 < (x0_1.length : Int)) = true := decide_eq_true c7
        clear c7
        obtain ⟨y2124, hy2124⟩ : ∃ y_ : List (S26), y_ = (x0_1.set (x2_1 : Int).toNat (⟨(rd_T26 x0_1 x3_1).f0, (rd_T26 x0_1 x3_1).f1⟩ : S26)) := ⟨_, rfl⟩
        replace H : (impl_Peg_219.l0 k1 (y2124.set (x3_1 : Int).toNat (⟨(rd_T26 x0_1 x2_1).f0, (rd_T26 x0_1 x2_1).f1⟩ : S26)) (wrap64 (x2_1 + 1)) (wrap64 (x3_1 - 1))) = some r := by first | (rw [hy2124]; with_reducible exact H) | (have H2_ := (Option.bind_some _ _).symm.trans H; rw [hy2124]; with_reducible exact H2_) | (have H2_ := (Option.bind_some _ _).symm.trans H; with_reducible exact H2_) | with_reducible exact H | (rw [hy2124]; exact H) | exact H
        have Ny2124 := Aside0.mk hy2124
        clear hy2124
        obtain ⟨y2125, hy2125⟩ : ∃ y_ : List (S26), y_ = (y2124.set (x3_1 : Int).toNat (⟨(rd_T26 x0_1 x2_1).f0, (rd_T26 x0_1 x2_1).f1⟩ : S26)) := ⟨_, rfl⟩
        replace H : (impl_Peg_219.l0 k1 y2125 (wrap64 (x2_1 + 1)) (wrap64 (x3_1 - 1))) = some r := by first | (rw [hy2125]; with_reducible exact H) | (have H2_ := (Option.bind_some _ _).symm.trans H; rw [hy2125]; with_reducible exact H2_) | (have H2_ := (Option.bind_some _ _).symm.trans H; with_reducible exact H2_) | with_reducible exact H | (rw [hy2125]; exact H) | exact H
        have Ny2125 := Aside0.mk hy2125
        clear hy2125
        have H' := Aside0.mk H
        clear H
        try go_wp2
        have n0_ := Aside0.mk (Kd.R_drew HO_0.out)
        have n1_ := Aside0.mk (Kept.drew HK.out)
        have n2_ := Aside0.mk (below_drew1 HB.out)
        clear HO_0
        clear HK
        clear HB
        have HO_0 := n0_
        have HK := n1_
        have HB := n2_
        clear n0_ n1_ n2_
        have p2122 : 0 ≤ (x3_1 : Int) := of_decide_eq_true (by first | (with_reducible assumption) | assumption)
        have q2122 : x3_1 < (x0_1.length : Int) := of_decide_eq_true (by first | (with_reducible assumption) | assumption)
        obtain ⟨ad2122, e2122, hx2122_0, hx2122_1⟩ := at_T26 (Kd.R_reads' HO_0.out).2.2 x3_1 p2122 q2122
        cases e2122
        replace p2122 := eq_true p2122
        replace q2122 := eq_true q2122
        have p2123 : 0 ≤ (x2_1 : Int) := of_decide_eq_true (by first | (with_reducible assumption) | assumption)
        have q2123 : x2_1 < (x0_1.length : Int) := of_decide_eq_true (by first | (with_reducible assumption) | assumption)
        obtain ⟨ad2123, e2123, hx2123_0, hx2123_1⟩ := at_T26 (Kd.R_reads' HO_0.out).2.2 x2_1 p2123 q2123
        obtain rfl : ad2122 = ad2123 := (by injection e2123)
        replace p2123 := eq_true p2123
        replace q2123 := eq_true q2123
        have p8 : 0 ≤ (x2_1 : Int) := of_decide_eq_true (by first | (with_reducible assumption) | assumption)
        have q8 : (x2_1 : Int) < ((x0_1.length : Int) : Int) := of_decide_eq_true (by first | (with_reducible assumption) | assumption)
        obtain ⟨go8, co8, eo8, gb8, gl8, cl8, HG8⟩ := Kd.R_form HO_0.out (by omega)
        (first | cases eo8 | (injection eo8 with ea_ en_ ec_; (first | subst ea_ | (injection ea_ with ea_; subst ea_)); subst ec_; clear en_))
        have GB8 := Aside0.mk gb8
        have GG8 := Aside0.mk HG8
        clear gb8 gl8 HG8
        have HMgo8 := Aside0.mk (show (P0_ go8 ∨ w.heap.size ≤ go8) from (HO_0.out.1 _ rfl))
        (first | simp only [add_plain] at hx2122_0 | skip)
        (first | simp only [add_plain] at hx2122_1 | skip)
        (first | simp only [add_plain] at hx2123_0 | skip)
        (first | simp only [add_plain] at hx2123_1 | skip)
        obtain ⟨ce8, hcl8, hM8, hcc8, hfr8⟩ := Kd.R_elem HO_0.out z26 (x2_1 : Int) p8 q8
        obtain rfl := k26_openM hM8
        have hx8_0 : World.cell? _ ⟨go8, (x2_1 : Int).toNat * 2, none⟩ = some (.int .i64 ((rd_T26 x0_1 x2_1).f0)) := hcc8 0 _ rfl
        have hx8_1 : World.cell? _ ⟨go8, (x2_1 : Int).toNat * 2 + 1, none⟩ = some (.int .i64 ((rd_T26 x0_1 x2_1).f1)) := hcc8 1 _ rfl
        have hf8_0 : World.frozen? _ ⟨go8, (x2_1 : Int).toNat * 2, none⟩ = false := hfr8 0
        have hf8_1 : World.frozen? _ ⟨go8, (x2_1 : Int).toNat * 2 + 1, none⟩ = false := hfr8 1
        clear hcl8 hcc8 hfr8 hM8
        replace p8 := eq_true p8
        replace q8 := eq_true q8
        obtain ⟨ce11, hcl11, hM11, hcc11, hfr11⟩ := Kd.R_elem HO_0.out z26 (x2_1 : Int) (of_decide_eq_true (by first | (with_reducible assumption) | assumption)) (by have h_ : (x2_1 : Int) < ((x0_1.length : Int) : Int) := of_decide_eq_true (by first | (with_reducible assumption) | assumption); first | exact h_ | (have e_ := (Kd.R_reads' HO_0.out).1; omega) | simpa using h_)
        obtain rfl := k26_openM hM11
        have HP11 := (Kd.R_seg HO_0.out (x2_1 : Int) (of_decide_eq_true (by first | (with_reducible assumption) | assumption)) (by have h_ : (x2_1 : Int) < ((x0_1.length : Int) : Int) := of_decide_eq_true (by first | (with_reducible assumption) | assumption); first | exact h_ | (have e_ := (Kd.R_reads' HO_0.out).1; omega) | simpa using h_) (seg := [.int .i64 ((rd_T26 x0_1 x3_1).f0), .int .i64 ((rd_T26 x0_1 x3_1).f1)]) (j := 0) hcl11 hcc11 (show 2 ≤ 2 from by decide) (x' := (⟨(rd_T26 x0_1 x3_1).f0, (rd_T26 x0_1 x3_1).f1⟩ : S26)) (k26_mkM _ _ _ (⟨(rd_T26 x0_1 x3_1).f0, (rd_T26 x0_1 x3_1).f1⟩ : S26) ) (fun _ hk => hk)).1
        rw [← Ny2124.out] at HP11
        have HQ11 := Aside0.mk HP11
        clear hcl11 hcc11 hfr11 hM11 HP11
        have p9 : 0 ≤ (x3_1 : Int) := of_decide_eq_true (by first | (with_reducible assumption) | assumption)
        have q9 : (x3_1 : Int) < ((x0_1.length : Int) : Int) := of_decide_eq_true (by first | (with_reducible assumption) | assumption)
        obtain ⟨ce9, hcl9, hM9, hcc9, hfr9⟩ := Kd.R_elem HQ11.out z26 (x3_1 : Int) p9 q9
        obtain rfl := k26_openM hM9
        have hx9_0 : World.cell? _ ⟨go8, (x3_1 : Int).toNat * 2, none⟩ = some (.int .i64 ((rd_T26 y2124 x3_1).f0)) := hcc9 0 _ rfl
        have hx9_1 : World.cell? _ ⟨go8, (x3_1 : Int).toNat * 2 + 1, none⟩ = some (.int .i64 ((rd_T26 y2124 x3_1).f1)) := hcc9 1 _ rfl
        have hf9_0 : World.frozen? _ ⟨go8, (x3_1 : Int).toNat * 2, none⟩ = false := hfr9 0
        have hf9_1 : World.frozen? _ ⟨go8, (x3_1 : Int).toNat * 2 + 1, none⟩ = false := hfr9 1
        clear hcl9 hcc9 hfr9 hM9
        replace p9 := eq_true p9
        replace q9 := eq_true q9
        obtain ⟨ce12, hcl12, hM12, hcc12, hfr12⟩ := Kd.R_elem HQ11.out z26 (x3_1 : Int) (of_decide_eq_true (by first | (with_reducible assumption) | assumption)) (by have h_ : (x3_1 : Int) < ((x0_1.length : Int) : Int) := of_decide_eq_true (by first | (with_reducible assumption) | assumption); first | exact h_ | (have e_ := (Kd.R_reads' HO_0.out).1; omega) | simpa using h_)
        obtain rfl := k26_openM hM12
        have HP12 := (Kd.R_seg HQ11.out (x3_1 : Int) (of_decide_eq_true (by first | (with_reducible assumption) | assumption)) (by have h_ : (x3_1 : Int) < ((x0_1.length : Int) : Int) := of_decide_eq_true (by first | (with_reducible assumption) | assumption); first | exact h_ | (have e_ := (Kd.R_reads' HO_0.out).1; omega) | simpa using h_) (seg := [.int .i64 ((rd_T26 x0_1 x2_1).f0), .int .i64 ((rd_T26 x0_1 x2_1).f1)]) (j := 0) hcl12 hcc12 (show 2 ≤ 2 from by decide) (x' := (⟨(rd_T26 x0_1 x2_1).f0, (rd_T26 x0_1 x2_1).f1⟩ : S26)) (k26_mkM _ _ _ (⟨(rd_T26 x0_1 x2_1).f0, (rd_T26 x0_1 x2_1).f1⟩ : S26) ) (fun _ hk => hk)).1
        rw [← Ny2125.out] at HP12
        have HQ12 := Aside0.mk HP12
        clear hcl12 hcc12 hfr12 hM12 HP12
        refine start_ (n := 16) (S := fun w' => w'.cell? ⟨go8, ((x3_1).toNat * 2), none⟩ = some (.int .i64 ((rd_T26 x0_1 x3_1).f0)) ∧ w'.cell? ⟨go8, ((x3_1).toNat * 2) + 1, none⟩ = some (.int .i64 ((rd_T26 x0_1 x3_1).f1)) ∧ w'.cell? ⟨go8, ((x2_1).toNat * 2), none⟩ = some (.int .i64 ((rd_T26 x0_1 x2_1).f0)) ∧ w'.cell? ⟨go8, ((x2_1).toNat * 2) + 1, none⟩ = some (.int .i64 ((rd_T26 x0_1 x2_1).f1))) (ds := [13, 15]) (zl 16 0) (by kernel_rfl) rfl rfl ⟨hx2122_0, hx2122_1, hx2123_0, hx2123_1⟩ (fun hHeld => ?_); refine with_tabW impl_Peg_219.tab3 impl_Peg_219.bits3 (fun HT_ HW_ => ?_)
        generalize wr.drew = w10 at HO_0 HK HB GG8 HQ11 HQ12 hf8_0 hf8_1 hf9_0 hf9_1 hx2122_0 hx2122_1 hx2123_0 hx2123_1 hx8_0 hx8_1 hx9_0 hx9_1 hHeld ⊢
        refine zp 0 14 16 1 HT_ ?_
        refine zp 1 15 16 3 HT_ ?_
        refine zp 2 16 16 7 HT_ ?_
        refine zp 3 17 16 15 HT_ ?_
        refine zp 4 18 16 31 HT_ ?_
        refine zp 5 19 16 63 HT_ ?_
        refine zp 6 20 16 127 HT_ ?_
        refine zp 8 22 16 383 HT_ ?_
        refine zp 9 23 16 895 HT_ ?_
        refine zp 10 24 16 1919 HT_ ?_
        refine take_ (i := 7) (N := some 21) (v := ?_) (a' := ?_) (zl 16 2047) rfl rfl (take_ofW HT_.out HW_.out (by kernel_rfl)) (fun _ _ _ h => h) (Or.inl ⟨by rfl, ?_⟩) hHeld ?_ ?_
        rotate_left
        ·rintro w' ⟨s0, s1, s2, s3⟩
         go_simp
         with_reducible rfl
        rotate_left
        ·exact zs
        refine take_ (i := 11) (N := some 25) (v := ?_) (a' := ?_) (zl 16 4095) rfl rfl (take_ofW HT_.out HW_.out (by kernel_rfl)) (fun _ _ _ h => h) (Or.inl ⟨by rfl, ?_⟩) hHeld ?_ ?_
        rotate_left
        ·rintro w' ⟨s0, s1, s2, s3⟩
         go_simp
         with_reducible rfl
        rotate_left
        ·exact zs
        refine zp 12 26 16 8191 HT_ ?_
        refine last_ (i := 13) (N := none) (zl 16 16383) rfl rfl (one_of HT_.out (by kernel_rfl)) (by decide) (fun K hK => ?_)
        refine skip_ (w1 := ?_) (by rfl) rfl ?_ ?_
        rotate_left
        ·go_simp
         rfl
        refine hK.out _ _ ?_
        clear hK K
        refine zp 14 27 16 32767 HT_ ?_
        refine last_ (i := 15) (N := none) (zl 16 65535) rfl rfl (one_of HT_.out (by kernel_rfl)) (by decide) (fun K hK => ?_)
        refine skip_ (w1 := ?_) (by rfl) rfl ?_ ?_
        rotate_left
        ·simp only [World.setCells, show k26.sz = 2 from rfl, Nat.add_zero] at hx9_0 hx9_1 hf9_0 hf9_1
         go_simp
         rfl
        refine hK.out _ _ ?_
        clear hK K
        refine done_ (done_of HT_.out (by kernel_rfl)) ?_
        try go_wp2
        (try simp only [← hl0_1])
        go_roundg k1
        case measure => have := HK1.out; omega
        case rel => exact ⟨(y2125), (wrap64 (x2_1 + 1)), (wrap64 (x3_1 - 1)), (by first | rfl | (simp; done) | (simp [*]; done)), (by first | rfl | (simp; done) | (simp [*]; done)), H', ⟨by have := HK1.out; omega⟩, ⟨by (try simp only [hl0_1]); (with_reducible repeat (first | apply Kd.R_alloc | apply Kd.R_drewN | apply Kd.R_drew)); exact HQ12.out⟩, ⟨by repeat (first | (with_reducible first | exact HK.out | apply Kept.alloc | apply Kept.drewN | apply Kept.drew | refine Kept.setCell ?_ HMgo8.out _ | refine Kept.setCell ?_ HMgo8.out _ | refine Kept.setCell ?_ HMgo8.out _ | refine Kept.setCell ?_ HMgo8.out _) | exact HK.out)⟩, ⟨by repeat (first | (with_reducible first | exact HB.out | apply below_alloc | apply pw_below_drewN | apply below_drew1 | refine below_set ?_ GB8.out | refine below_set ?_ GB8.out | refine below_set ?_ GB8.out | refine below_set ?_ GB8.out) | exact HB.out)⟩⟩
       ·rw [if_neg c7] at H
        exact absurd H (by simp)
      ·rw [if_neg c6] at H
       exact absurd H (by simp)
     ·rw [if_neg c5] at H
      exact absurd H (by simp)
    ·rw [if_neg c4] at H
     exact absurd H (by simp)
   ·rw [if_neg c3] at H
    have c3b0 : decide (x2_1 < x3_1) = false := decide_eq_false c3
    clear c3
    obtain rfl := Option.some.inj H
    go_wp2
    first | go_end0 | ((try simp only [Exit.inBlock, Exit.then]); refine bodyPost_ret (results_none rfl _ _ _) rfl ?_)
    exact ⟨by first | rfl | (simp [errW_none, errW_some] <;> rfl) | (simp [*, errW_none, errW_some] <;> rfl), (by first | exact (by (with_reducible repeat (first | apply Kd.R_alloc | apply Kd.R_drewN | apply Kd.R_drew)); exact HO_0.out) | (simp only [hl0_1]; exact (by (with_reducible repeat (first | apply Kd.R_alloc | apply Kd.R_drewN | apply Kd.R_drew)); exact HO_0.out))), by repeat (first | (with_reducible first | exact HB.out | apply below_alloc | apply pw_below_drewN | apply below_drew1) | exact HB.out), by repeat (first | (with_reducible first | exact HK.out | apply Kept.alloc | apply Kept.drewN | apply Kept.drew) | exact HK.out)⟩
end Go.Proofs.Ytphpdfcblchpnaa.Q
namespace Go.Proofs.Ytphpdfcblchpnaa.D
open Go.RowKit Go.Proofs.Ytphpdfcblchpnaa.Q Go.Proofs.YtphpdfcblchpnaaW.PrintWords Go.Proofs.YtphpdfcblchpnaaW.PrintLast Go.Proofs.YtphpdfcblchpnaaW.PrintMore
open Go.Proofs.Ytphpdfcblchpnaa.M Go.Proofs.YtphpdfcblchpnaaH
structure Diff (l : List Pg) : Prop where
  n1 : 1 ≤ l.length
  n30 : l.length ≤ 30
  pegs : ∀ p ∈ l, isPeg p
  diff : ∀ i j, j < i → i < l.length → at' l i ≠ at' l j
theorem pgs_take (l : List S26) (i : Nat) : pgs (l.take i) = (pgs l).take i := by unfold pgs; rw [List.map_take]
theorem at'_take (l : List Pg) (i j : Nat) (hj : j < i) (hi : i ≤ l.length) : at' (l.take i) j = at' l j := by
  rw [at'_of _ _ (by rw [List.length_take]; omega), at'_of _ _ (by omega)]
  simp
theorem mem_take_at (l : List Pg) (i : Nat) (hi : i ≤ l.length) (p : Pg) : p ∈ l.take i ↔ ∃ j, j < i ∧ at' l j = p := by
  rw [List.mem_iff_getElem]
  constructor
  · rintro ⟨j, hj, e⟩
    have hj' : j < i := by rw [List.length_take] at hj; omega
    exact ⟨j, hj', by rw [at'_of _ _ (by omega), ← e]; simp⟩
  · rintro ⟨j, hj, e⟩
    exact ⟨j, by rw [List.length_take]; omega, by rw [← e, at'_of _ _ (by omega)]; simp⟩
theorem mem_at' (l : List Pg) (i : Nat) (hi : i < l.length) : at' l i ∈ l := by rw [at'_of _ _ hi]; exact List.getElem_mem _
theorem of_mem (l : List Pg) (p : Pg) (h : p ∈ l) : ∃ i, i < l.length ∧ at' l i = p := by
  obtain ⟨i, hi, e⟩ := List.mem_iff_getElem.1 h
  exact ⟨i, hi, by rw [at'_of _ _ hi]; exact e⟩
theorem bdGood_l1 (l : List S26) (hl : l.length ≤ 1000) (i : Nat) (hi : i < l.length) (r : Bool) (hR : Ev (fun k => spec_bdGood.l0 k l l (l.length : Int) ((i + 1 : Nat) : Int)) r) :
    ∀ j, j ≤ i → Ev (fun k => spec_bdGood.l1 k l l (l.length : Int) (i : Int) (l.take i) (i : Int) (j : Int) (at' (pgs l) i).1 (at' (pgs l) i).2) (dec (∀ t, j ≤ t → t < i → at' (pgs l) i ≠ at' (pgs l) t) && r) := by
  have ht : (l.take i).length = i := by rw [List.length_take]; omega
  refine loop_ev (r := fun j => dec (∀ t, j ≤ t → t < i → at' (pgs l) i ≠ at' (pgs l) t) && r) ?_ ?_
  · rw [dec_true (fun t h1 h2 => by omega), Bool.true_and]
    refine Ev.step (fun k => ?_) hR
    simp only [spec_bdGood.l1]
    rw [if_neg (by omega), cast_succ i (by omega)]
  · intro j hj ih
    have e0 : (rd_T26 (l.take i) (j : Int)).f0 = (at' (pgs l) j).1 := by rw [rd_f0 _ j (by omega), pgs_take, at'_take _ _ _ hj (by rw [pgs_length]; omega)]
    have e1 : (rd_T26 (l.take i) (j : Int)).f1 = (at' (pgs l) j).2 := by rw [rd_f1 _ j (by omega), pgs_take, at'_take _ _ _ hj (by rw [pgs_length]; omega)]
    by_cases h : at' (pgs l) i = at' (pgs l) j
    · rw [dec_false (fun hh => hh j (Nat.le_refl _) hj h), Bool.false_and]
      refine Ev.step (f := fun _ => some false) (fun k => ?_) (Ev.now _)
      simp only [spec_bdGood.l1]
      rw [if_pos (by omega), if_pos (by omega), if_pos (by omega), e0, e1, h, if_pos (by simp)]
    · have e : dec (∀ t, j ≤ t → t < i → at' (pgs l) i ≠ at' (pgs l) t) = dec (∀ t, j + 1 ≤ t → t < i → at' (pgs l) i ≠ at' (pgs l) t) := dec_congr (by
        constructor
        · intro hh t h1 h2
          exact hh t (by omega) h2
        · intro hh t h1 h2
          by_cases c : t = j
          · subst c; exact h
          · exact hh t (by omega) h2)
      rw [e]
      refine Ev.step (fun k => ?_) ih
      simp only [spec_bdGood.l1]
      rw [if_pos (by omega), if_pos (by omega), if_pos (by omega), e0, e1, if_neg, cast_succ j (by omega)]
      intro hh
      simp only [Bool.and_eq_true, beq_iff_eq] at hh
      exact h (Prod.ext hh.1 hh.2)
theorem bdGood_ev (l : List S26) : Ev (fun k => spec_bdGood.f k l) (dec (Diff (pgs l))) := by
  by_cases hlen : 1 ≤ l.length ∧ l.length ≤ 30
  · have key : ∀ i, i ≤ l.length → Ev (fun k => spec_bdGood.l0 k l l (l.length : Int) (i : Int)) (dec (∀ t, i ≤ t → t < l.length → isPeg (at' (pgs l) t) ∧ ∀ j, j < t → at' (pgs l) t ≠ at' (pgs l) j)) := by
      refine loop_ev (r := fun i => dec (∀ t, i ≤ t → t < l.length → isPeg (at' (pgs l) t) ∧ ∀ j, j < t → at' (pgs l) t ≠ at' (pgs l) j)) ?_ ?_
      · rw [dec_true (fun t h1 h2 => by omega)]
        refine Ev.step (f := fun _ => some true) (fun k => ?_) (Ev.now _)
        simp only [spec_bdGood.l0]
        rw [if_neg (by omega)]
      · intro i hi ih
        by_cases h : isPeg (at' (pgs l) i)
        · have ht : (l.take i).length = i := by rw [List.length_take]; omega
          have h2 := bdGood_l1 l (by omega) i hi _ ih 0 (Nat.zero_le _)
          have e : (dec (∀ t, 0 ≤ t → t < i → at' (pgs l) i ≠ at' (pgs l) t) && dec (∀ t, i + 1 ≤ t → t < l.length → isPeg (at' (pgs l) t) ∧ ∀ j, j < t → at' (pgs l) t ≠ at' (pgs l) j)) = dec (∀ t, i ≤ t → t < l.length → isPeg (at' (pgs l) t) ∧ ∀ j, j < t → at' (pgs l) t ≠ at' (pgs l) j) := by
            rw [Bool.eq_iff_iff, Bool.and_eq_true, dec_iff, dec_iff, dec_iff]
            constructor
            · rintro ⟨a, b⟩ t h1 h2
              by_cases c : t = i
              · subst c; exact ⟨h, fun j hj => a j (Nat.zero_le _) hj⟩
              · exact b t (by omega) h2
            · intro hh
              exact ⟨fun t _ h2 => (hh i (Nat.le_refl _) hi).2 t h2, fun t h1 h2 => hh t (by omega) h2⟩
          rw [e] at h2
          refine Ev.step (fun k => ?_) h2
          simp only [spec_bdGood.l0]
          rw [if_pos (by omega), if_pos (by omega), if_pos (by omega), rd_f0 l i hi, rd_f1 l i hi, pgIs_eq]
          simp only [Option.bind_some]
          rw [if_pos (decide_eq_true h), if_pos (by omega)]
          simp only [Int.toNat_natCast, ht]
          rfl
        · rw [dec_false (fun hh => h (hh i (Nat.le_refl _) hi).1)]
          refine Ev.step (f := fun _ => some false) (fun k => ?_) (Ev.now _)
          simp only [spec_bdGood.l0]
          rw [if_pos (by omega), if_pos (by omega), if_pos (by omega), rd_f0 l i hi, rd_f1 l i hi, pgIs_eq]
          simp only [Option.bind_some]
          rw [if_neg (by simpa using h)]
    have h0 := key 0 (Nat.zero_le _)
    have e : dec (∀ t, 0 ≤ t → t < l.length → isPeg (at' (pgs l) t) ∧ ∀ j, j < t → at' (pgs l) t ≠ at' (pgs l) j) = dec (Diff (pgs l)) := dec_congr (by
      constructor
      · intro hh
        refine ⟨by rw [pgs_length]; omega, by rw [pgs_length]; omega, fun p hp => ?_, fun i j h1 h2 => (hh i (Nat.zero_le _) (by rw [pgs_length] at h2; exact h2)).2 j h1⟩
        obtain ⟨i, hi, e⟩ := of_mem _ _ hp
        rw [← e]
        exact (hh i (Nat.zero_le _) (by rw [pgs_length] at hi; exact hi)).1
      · intro D t _ ht
        exact ⟨D.pegs _ (mem_at' _ _ (by rw [pgs_length]; exact ht)), fun j hj => D.diff t j hj (by rw [pgs_length]; exact ht)⟩)
    rw [e] at h0
    refine Ev.congr (fun k => ?_) h0
    unfold spec_bdGood.f
    rw [l1In_eq]
    simp only [Option.bind_some]
    rw [if_pos (decide_eq_true (by omega))]
    rfl
  · rw [dec_false (fun D => hlen ⟨by have := D.n1; rw [pgs_length] at this; exact this, by have := D.n30; rw [pgs_length] at this; exact this⟩)]
    refine Ev.congr (f := fun _ => some false) (fun k => ?_) (Ev.now _)
    unfold spec_bdGood.f
    rw [l1In_eq]
    simp only [Option.bind_some]
    rw [if_neg (by simp; omega)]
theorem areDifferent_ev (l : List S26) : Ev (fun k => impl_AreDifferent.f k l) (dec (Diff (pgs l))) := by
  have stop : Ev (fun k => impl_AreDifferent.j0 k l true) false := Ev.step (f := fun _ => some false) (fun k => by simp only [impl_AreDifferent.j0]; rw [if_pos trivial]) (Ev.now _)
  by_cases hlen : 1 ≤ l.length ∧ l.length ≤ 30
  · by_cases hp : ∀ p ∈ pgs l, isPeg p
    · have key : ∀ i, i ≤ l.length → Ev (fun k => impl_AreDifferent.l0 k l l (l.length : Int) (i : Int)) (dec (∀ t, i ≤ t → t < l.length → ∀ j, j < t → at' (pgs l) t ≠ at' (pgs l) j)) := by
        refine loop_ev (r := fun i => dec (∀ t, i ≤ t → t < l.length → ∀ j, j < t → at' (pgs l) t ≠ at' (pgs l) j)) ?_ ?_
        · rw [dec_true (fun t h1 h2 => by omega)]
          refine Ev.step (f := fun _ => some true) (fun k => ?_) (Ev.now _)
          simp only [impl_AreDifferent.l0]
          rw [if_neg (by omega)]
        · intro i hi ih
          refine Ev.step (f := fun k => (impl_Peg_172.f k (l.take i) (at' (pgs l) i).1 (at' (pgs l) i).2).bind fun t => if t = true then some false else impl_AreDifferent.l0 k l l (l.length : Int) ((i + 1 : Nat) : Int)) (fun k => ?_) ?_
          · simp only [impl_AreDifferent.l0]
            rw [if_pos (by omega), if_pos (by omega), if_pos (by omega), if_pos (by omega), rd_f0 l i hi, rd_f1 l i hi, cast_succ i (by omega), Int.toNat_natCast]
          · refine Ev.bind (contains_ev (l.take i) (at' (pgs l) i) (by rw [List.length_take]; omega)) ?_
            rw [pgs_take]
            by_cases h : at' (pgs l) i ∈ (pgs l).take i
            · rw [dec_true h]
              obtain ⟨j, hj, e⟩ := (mem_take_at _ _ (by rw [pgs_length]; omega) _).1 h
              rw [dec_false (fun hh => hh i (Nat.le_refl _) hi j hj e.symm)]
              exact Ev.congr (fun k => if_pos rfl) (Ev.now _)
            · rw [dec_false h]
              have e : dec (∀ t, i ≤ t → t < l.length → ∀ j, j < t → at' (pgs l) t ≠ at' (pgs l) j) = dec (∀ t, i + 1 ≤ t → t < l.length → ∀ j, j < t → at' (pgs l) t ≠ at' (pgs l) j) := dec_congr (by
                constructor
                · intro hh t h1 h2
                  exact hh t (by omega) h2
                · intro hh t h1 h2 j hj
                  by_cases c : t = i
                  · subst c
                    exact fun e => h ((mem_take_at _ _ (by rw [pgs_length]; omega) _).2 ⟨j, hj, e.symm⟩)
                  · exact hh t (by omega) h2 j hj)
              rw [e]
              exact Ev.congr (fun k => if_neg (by simp)) ih
      have h0 := key 0 (Nat.zero_le _)
      have e : dec (∀ t, 0 ≤ t → t < l.length → ∀ j, j < t → at' (pgs l) t ≠ at' (pgs l) j) = dec (Diff (pgs l)) := dec_congr (by
        constructor
        · intro hh
          exact ⟨by rw [pgs_length]; omega, by rw [pgs_length]; omega, hp, fun i j h1 h2 => hh i (Nat.zero_le _) (by rw [pgs_length] at h2; exact h2) j h1⟩
        · intro D t _ ht j hj
          exact D.diff t j hj (by rw [pgs_length]; exact ht))
      rw [e] at h0
      refine Ev.congr (f := fun k => (impl_arePegs.f k l).bind fun t => impl_AreDifferent.j0 k l (!t)) (fun k => ?_) (Ev.bind (arePegs_ev l (by omega)) ?_)
      · unfold impl_AreDifferent.f
        rw [within_eq]
        simp only [Option.bind_some]
        rw [if_pos (decide_eq_true (by omega))]
      · rw [dec_true hp]
        refine Ev.step (fun k => ?_) h0
        simp only [impl_AreDifferent.j0]
        rw [if_neg (by simp)]
        rfl
    · rw [dec_false (fun D => hp D.pegs)]
      refine Ev.congr (f := fun k => (impl_arePegs.f k l).bind fun t => impl_AreDifferent.j0 k l (!t)) (fun k => ?_) (Ev.bind (arePegs_ev l (by omega)) ?_)
      · unfold impl_AreDifferent.f
        rw [within_eq]
        simp only [Option.bind_some]
        rw [if_pos (decide_eq_true (by omega))]
      · rw [dec_false hp]
        exact stop
  · rw [dec_false (fun D => hlen ⟨by have := D.n1; rw [pgs_length] at this; exact this, by have := D.n30; rw [pgs_length] at this; exact this⟩)]
    refine Ev.congr (fun k => ?_) stop
    unfold impl_AreDifferent.f
    rw [within_eq]
    simp only [Option.bind_some]
    rw [if_neg (by simp; omega)]
end Go.Proofs.Ytphpdfcblchpnaa.D
namespace Go.Proofs.Ytphpdfcblchpnaa.D
open Go.RowKit Go.Proofs.Ytphpdfcblchpnaa.Q Go.Proofs.YtphpdfcblchpnaaW.PrintWords Go.Proofs.YtphpdfcblchpnaaW.PrintLast Go.Proofs.YtphpdfcblchpnaaW.PrintMore
open Go.Proofs.Ytphpdfcblchpnaa.M Go.Proofs.YtphpdfcblchpnaaH
section
variable {α : Type} (lt : α → α → Bool)
def ins (out : List α) (p : α) : List α := out.takeWhile (fun s => lt s p) ++ p :: out.dropWhile (fun s => lt s p)
theorem while_at (P : α → Bool) : ∀ (out : List α) (j : Nat), j ≤ out.length → (∀ t, (h : t < out.length) → t < j → P out[t] = true) → ((h : j < out.length) → P out[j] = false) → out.takeWhile P = out.take j ∧ out.dropWhile P = out.drop j
  | [], j, h, _, _ => by simp
  | a :: out, 0, _, _, h2 => by
    have : P a = false := h2 (Nat.succ_pos _)
    simp [List.takeWhile, List.dropWhile, this]
  | a :: out, j + 1, h, h1, h2 => by
    have ha : P a = true := h1 0 (Nat.succ_pos _) (by omega)
    obtain ⟨e1, e2⟩ := while_at P out j (by simpa using h) (fun t ht hj => h1 (t + 1) (Nat.succ_lt_succ ht) (by omega)) (fun hj => h2 (Nat.succ_lt_succ hj))
    simp [ha, e1, e2]
theorem ins_at (out : List α) (p : α) (j : Nat) (h : j ≤ out.length) (h1 : ∀ t, (h : t < out.length) → t < j → lt out[t] p = true) (h2 : (h : j < out.length) → lt out[j] p = false) : ins lt out p = out.take j ++ p :: out.drop j := by
  obtain ⟨e1, e2⟩ := while_at (fun s => lt s p) out j h h1 h2
  unfold ins
  rw [e1, e2]
theorem ins_perm (out : List α) (p : α) : (ins lt out p).Perm (p :: out) := by
  unfold ins
  refine List.perm_middle.trans (List.Perm.cons _ ?_)
  rw [List.takeWhile_append_dropWhile]
theorem ins_sorted (S : α → Prop) (asymm : ∀ a b, S a → S b → lt a b = true → lt b a = false) (ntrans : ∀ a b c, S a → S b → S c → lt b a = false → lt c b = false → lt c a = false)
    (out : List α) (p : α) (hS : ∀ x ∈ out, S x) (hp : S p) (hs : out.Pairwise (fun a b => lt b a = false)) : (ins lt out p).Pairwise (fun a b => lt b a = false) := by
  have hd : ∀ (out : List α), (∀ x ∈ out, S x) → out.Pairwise (fun a b => lt b a = false) → ∀ b ∈ out.dropWhile (fun s => lt s p), lt b p = false := by
    intro out
    induction out with
    | nil => intro _ _ b hb; cases hb
    | cons a out ih =>
      intro hS hs b hb
      rw [List.pairwise_cons] at hs
      by_cases h : lt a p = true
      · rw [List.dropWhile_cons_of_pos (p := fun s => lt s p) h] at hb
        exact ih (fun x hx => hS x (by simp [hx])) hs.2 b hb
      · rw [List.dropWhile_cons_of_neg (p := fun s => lt s p) h] at hb
        have ha : lt a p = false := by simpa using h
        rcases List.mem_cons.1 hb with rfl | hb
        · exact ha
        · exact ntrans p a b hp (hS a (by simp)) (hS b (by simp [hb])) ha (hs.1 b hb)
  have ht : ∀ (out : List α), ∀ a ∈ out.takeWhile (fun s => lt s p), lt a p = true := by
    intro out
    induction out with
    | nil => intro a ha; cases ha
    | cons b out ih =>
      intro a ha
      by_cases h : lt b p = true
      · rw [List.takeWhile_cons_of_pos (p := fun s => lt s p) h] at ha
        rcases List.mem_cons.1 ha with rfl | ha
        · exact h
        · exact ih a ha
      · rw [List.takeWhile_cons_of_neg (p := fun s => lt s p) h] at ha
        cases ha
  have hta : ∀ a ∈ out.takeWhile (fun s => lt s p), S a := fun a ha => hS a ((List.takeWhile_sublist _).mem ha)
  have hda : ∀ a ∈ out.dropWhile (fun s => lt s p), S a := fun a ha => hS a ((List.dropWhile_sublist _).mem ha)
  have hs' := hs
  rw [← List.takeWhile_append_dropWhile (p := fun s => lt s p) (l := out), List.pairwise_append] at hs'
  unfold ins
  rw [List.pairwise_append, List.pairwise_cons]
  refine ⟨hs'.1, ⟨fun b hb => hd out hS hs b hb, hs'.2.1⟩, fun a ha b hb => ?_⟩
  rcases List.mem_cons.1 hb with rfl | hb
  · exact asymm a b (hta a ha) hp (ht out a ha)
  · exact hs'.2.2 a ha b hb
def insAll (out : List α) (l : List α) : List α := l.foldl (ins lt) out
theorem insAll_perm : ∀ (l out : List α), (insAll lt out l).Perm (out ++ l)
  | [], out => by simp [insAll]
  | p :: l, out => by
    refine (insAll_perm l (ins lt out p)).trans ?_
    refine ((ins_perm lt out p).append_right l).trans ?_
    rw [List.cons_append]
    exact List.perm_middle.symm
theorem insAll_sorted (S : α → Prop) (asymm : ∀ a b, S a → S b → lt a b = true → lt b a = false) (ntrans : ∀ a b c, S a → S b → S c → lt b a = false → lt c b = false → lt c a = false) :
    ∀ (l out : List α), (∀ x ∈ out, S x) → (∀ x ∈ l, S x) → out.Pairwise (fun a b => lt b a = false) → (insAll lt out l).Pairwise (fun a b => lt b a = false)
  | [], out, _, _, h => h
  | p :: l, out, h1, h2, h => insAll_sorted S asymm ntrans l (ins lt out p) (fun x hx => by
      rcases List.mem_cons.1 ((ins_perm lt out p).mem_iff.1 hx) with rfl | hx
      · exact h2 _ (by simp)
      · exact h1 x hx) (fun x hx => h2 x (by simp [hx])) (ins_sorted lt S asymm ntrans out p h1 (h2 p (by simp)) h)
end
theorem insAll_sortPg (l : List S26) : insAll ltPg [] l = sortPg l := by
  refine sortPg_unique (insAll_perm ltPg l []) (insAll_sorted ltPg (fun _ => True) (fun a b _ _ h => ?_) (fun a b c _ _ _ h1 h2 => ?_) l [] (fun _ _ => trivial) (fun _ _ => trivial) List.Pairwise.nil)
  · rw [ltPg_iff] at h
    rw [ltPg_false]
    omega
  · rw [ltPg_false] at *
    omega
theorem pgLess_eq (a b : S26) : spec_pgLess.f a.f0 a.f1 b.f0 b.f1 = some (ltPg a b) := by
  unfold spec_pgLess.f
  by_cases h : a.f0 < b.f0
  · rw [if_pos h, (ltPg_iff a b).2 (.inl h)]
  · rw [if_neg h]
    by_cases h2 : a.f0 = b.f0
    · rw [if_pos h2]
      by_cases h3 : a.f1 < b.f1
      · rw [(ltPg_iff a b).2 (.inr ⟨h2, h3⟩), decide_eq_true h3]
      · rw [(ltPg_false a b).2 (by omega), decide_eq_false h3]
    · rw [if_neg h2, (ltPg_false a b).2 (by omega)]
theorem rd_getElem (l : List S26) (i : Nat) (h : i < l.length) : rd_T26 l (i : Int) = l[i] := by
  unfold rd_T26
  simp [List.getD, h]
theorem bdSorted_l1 (l out : List S26) (i : Nat) (ho : out.length ≤ 1000000) (hi : i ≤ 1000000) (p : S26) (r : List S26) (hR : Ev (fun k => spec_bdSorted.l0 k (ins ltPg out p) l (l.length : Int) ((i + 1 : Nat) : Int)) r) :
    ∀ j, j ≤ out.length → (∀ t, (h : t < out.length) → t < j → ltPg out[t] p = true) → Ev (fun k => spec_bdSorted.l1 k out (j : Int) l (l.length : Int) (i : Int) p.f0 p.f1) r := by
  intro j hj
  obtain ⟨d, hd⟩ : ∃ d, d = out.length - j := ⟨_, rfl⟩
  induction d generalizing j with
  | zero =>
    intro hb
    have e := ins_at ltPg out p j hj hb (fun h => by omega)
    rw [e] at hR
    refine Ev.step (fun k => ?_) hR
    simp only [spec_bdSorted.l1]
    rw [if_neg (by omega)]
    simp only [Option.bind_some, Int.toNat_natCast, cast_succ i (by omega)]
    rw [if_pos (by omega), if_pos (by omega), if_pos (by simp; omega), if_pos (by simp; omega), if_pos (by simp; omega)]
    simp
  | succ d ih =>
    intro hb
    by_cases h : ltPg (out[j]'(by omega)) p = true
    · have := ih (j + 1) (by omega) (by omega) (fun t ht hlt => by
        by_cases c : t = j
        · subst c; exact h
        · exact hb t ht (by omega))
      refine Ev.step (fun k => ?_) this
      simp only [spec_bdSorted.l1]
      rw [if_pos (by omega), if_pos (by omega), rd_getElem out j (by omega), pgLess_eq]
      simp only [Option.bind_some]
      rw [if_pos h, cast_succ j (by omega)]
    · have h : ltPg (out[j]'(by omega)) p = false := by simpa using h
      have e := ins_at ltPg out p j hj hb (fun _ => h)
      rw [e] at hR
      refine Ev.step (fun k => ?_) hR
      simp only [spec_bdSorted.l1]
      rw [if_pos (by omega), if_pos (by omega), rd_getElem out j (by omega), pgLess_eq]
      simp only [Option.bind_some]
      rw [if_neg (by simp [h])]
      simp only [Int.toNat_natCast, cast_succ i (by omega)]
      rw [if_pos (by omega), if_pos (by simp; omega), if_pos (by simp; omega), if_pos (by simp; omega)]
      simp
theorem bdSorted_ev (l : List S26) (hl : l.length ≤ 100000) : Ev (fun k => spec_bdSorted.f k l) (sortPg l) := by
  have key : ∀ d i, d = l.length - i → i ≤ l.length → Ev (fun k => spec_bdSorted.l0 k (insAll ltPg [] (l.take i)) l (l.length : Int) (i : Int)) (sortPg l) := by
    intro d
    induction d with
    | zero =>
      intro i hd hi
      have : i = l.length := by omega
      subst this
      rw [List.take_length, insAll_sortPg]
      refine Ev.step (f := fun _ => some (sortPg l)) (fun k => ?_) (Ev.now _)
      simp only [spec_bdSorted.l0]
      rw [if_neg (by omega)]
    | succ d ih =>
      intro i hd hi
      have hlt : i < l.length := by omega
      have h1 := ih (i + 1) (by omega) (by omega)
      have e : insAll ltPg [] (l.take (i + 1)) = ins ltPg (insAll ltPg [] (l.take i)) l[i] := by
        rw [List.take_succ_eq_append_getElem hlt]
        unfold insAll
        rw [List.foldl_append]
        rfl
      rw [e] at h1
      have hlen : (insAll ltPg [] (l.take i)).length ≤ 1000000 := by
        rw [(insAll_perm ltPg _ _).length_eq]
        simp
        omega
      have h2 := bdSorted_l1 l (insAll ltPg [] (l.take i)) i hlen (by omega) l[i] _ h1 0 (Nat.zero_le _) (fun t _ h => by omega)
      refine Ev.step (fun k => ?_) h2
      simp only [spec_bdSorted.l0]
      rw [if_pos (by omega), if_pos (by omega), if_pos (by omega), rd_getElem l i hlt]
      rfl
  exact key _ 0 rfl (Nat.zero_le _)
end Go.Proofs.Ytphpdfcblchpnaa.D
