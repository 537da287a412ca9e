/- Parts of the proof: printed texts, words and own texts, cut to what is used. -/
import Derived.Test.YtphpdfcblchpnaaZT1
namespace Go.Proofs.Ytphpdfcblchpnaa.Q
open Go.RowKit Go.Proofs.YtphpdfcblchpnaaW.PrintWords Go.Proofs.YtphpdfcblchpnaaW.PrintLast Go.Proofs.YtphpdfcblchpnaaW.PrintMore
attribute [local go_sem] max2_int min2_int max_two min_two max_three min_three max_four min_four   -- for this text's walks alone
set_option linter.unusedVariables false
set_option linter.unusedSimpArgs false
def impl_turn.f (a0_0 : Int) (a0_1 : Int) (a1_0 : Int) (a1_1 : Int) (a2_0 : Int) (a2_1 : Int) : Option (Int) := (impl_Peg_less.f a1_0 a1_1 a0_0 a0_1).bind fun bt353 => ((impl_Peg_less.f a2_0 a2_1 a0_0 a0_1).bind fun bt355 => ((impl_cross.f bt353.1 bt353.2 bt355.1 bt355.2).bind fun t357 => (some t357)))
def impl_turn.T1 : Bool × List (List Nat × List Nat) := (true, [([], []), ([], []), ([0, 1], [0, 1]), ([], []), ([], []), ([3, 4, 2], [3, 4]), ([2, 5, 5], [2, 5]), ([6, 6, 0, 1, 2, 3, 4, 5, 6], [6])])
def impl_turn.B1 : List Nat := [0, 0, 3, 0, 0, 31, 63, 127]
theorem impl_turn.tab1 : rtab .any (opsOf Try.f173 1) = impl_turn.T1 := by kernel_rfl
theorem impl_turn.bits1 : waitsOk impl_turn.T1.2 impl_turn.B1 = true := by kernel_rfl
set_option maxHeartbeats 8000000 in
set_option maxRecDepth 100000 in
theorem impl_turn.calls (a0_0 : Int) (a0_1 : Int) (a1_0 : Int) (a1_1 : Int) (a2_0 : Int) (a2_1 : Int) (r : Int) (w : World) (h : impl_turn.f a0_0 a0_1 a1_0 a1_1 a2_0 a2_1 = some r) :
  Calls Try.prog 173 #[.agg #[.int .i64 a0_0, .int .i64 a0_1], .agg #[.int .i64 a1_0, .int .i64 a1_1], .agg #[.int .i64 a2_0, .int .i64 a2_1]] w fun e w' => e = .returned (.int .i64 r) ∧ Below w.heap.size w w' := by
 have hu26 := Try.underlying26
 have HB := Aside0.mk (Below.refl w.heap.size w)
 have H : ((impl_Peg_less.f a1_0 a1_1 a0_0 a0_1).bind fun bt353 => ((impl_Peg_less.f a2_0 a2_1 a0_0 a0_1).bind fun bt355 => ((impl_cross.f bt353.1 bt353.2 bt355.1 bt355.2).bind fun t357 => (some t357)))) = some r := h
 clear h
 replace H := Option.bind_eq_some_iff.mp H
 obtain ⟨⟨t353, t354⟩, A40, H⟩ := H
 replace H : ((impl_Peg_less.f a2_0 a2_1 a0_0 a0_1).bind fun bt355 => ((impl_cross.f t353 t354 bt355.1 bt355.2).bind fun t357 => (some t357))) = some r := H
 have A4 := Aside0.mk A40
 clear A40
 replace H := Option.bind_eq_some_iff.mp H
 obtain ⟨⟨t355, t356⟩, A50, H⟩ := H
 replace H : ((impl_cross.f t353 t354 t355 t356).bind fun t357 => (some t357)) = some r := H
 have A5 := Aside0.mk A50
 clear A50
 replace H := Option.bind_eq_some_iff.mp H
 obtain ⟨t357, A60, H⟩ := H
 replace H : (some t357) = some r := H
 have A6 := Aside0.mk A60
 clear A60
 obtain rfl := Option.some.inj H
 go_enter Try.func173, Try.ntmps173
 try go_wp2_with (first | ((with_reducible refine gate_dst (N := 3) rfl ?_); refine box_event ?hg (N := 3) ?hd (cs := #[.int .i64 a0_0, .int .i64 a0_1]) (t := 26) ?hr ?_; (case hd => rfl); (case hg => rfl); (case hr => first | (go_simp; done) | (go_simp; rfl)); intro gb350 hg w7 hbox hb; have n0_ := Aside0.mk (below_step zb hb); have n1_ := Aside0.mk (hbox); have n2_ := Aside0.mk ((by rw [hg]; exact (below_size zb) : w.heap.size ≤ gb350)); have n3_ := Aside0.mk ((by rw [hg]; exact (below_size zb) : w.heap.size ≤ gb350)); clear HB; have HB := n0_; have BK350 := n1_; have GW350 := n2_; have GE350 := n3_; clear n0_ n1_ n2_ n3_; clear hb hbox hg) | ((with_reducible refine gate_dst (N := 4) rfl ?_); refine box_event ?hg (N := 4) ?hd (cs := #[.int .i64 a1_0, .int .i64 a1_1]) (t := 26) ?hr ?_; (case hd => rfl); (case hg => rfl); (case hr => first | (go_simp; done) | (go_simp; rfl)); intro gb351 hg w8 hbox hb; have n0_ := Aside0.mk (blk_below (g := gb350) (o := .cells #[.int .i64 a0_0, .int .i64 a0_1] 26 (0, 0)) zk hb); have n1_ := Aside0.mk (below_step zb hb); have n2_ := Aside0.mk (hbox); have n3_ := Aside0.mk ((by rw [hg]; exact (below_size zb) : w.heap.size ≤ gb351)); have n4_ := Aside0.mk ((by rw [hg]; exact (below_size zb) : w.heap.size ≤ gb351)); have n5_ := Aside0.mk ((by rw [hg]; exact Nat.ne_of_lt (blk_lt (g := gb350) (o := .cells #[.int .i64 a0_0, .int .i64 a0_1] 26 (0, 0)) zk) : gb350 ≠ gb351)); have n6_ := Aside0.mk ((by rw [hg]; exact Nat.ne_of_gt (blk_lt (g := gb350) (o := .cells #[.int .i64 a0_0, .int .i64 a0_1] 26 (0, 0)) zk) : gb351 ≠ gb350)); clear BK350; clear HB; have BK350 := n0_; have HB := n1_; have BK351 := n2_; have GW351 := n3_; have GE351 := n4_; have NB350_351 := n5_; have NB351_350 := n6_; clear n0_ n1_ n2_ n3_ n4_ n5_ n6_; clear hb hbox hg) | ((with_reducible refine gate_dst (N := 5) rfl ?_); refine box_event ?hg (N := 5) ?hd (cs := #[.int .i64 a2_0, .int .i64 a2_1]) (t := 26) ?hr ?_; (case hd => rfl); (case hg => rfl); (case hr => first | (go_simp; done) | (go_simp; rfl)); intro gb352 hg w9 hbox hb; have n0_ := Aside0.mk (blk_below (g := gb350) (o := .cells #[.int .i64 a0_0, .int .i64 a0_1] 26 (0, 0)) zk hb); have n1_ := Aside0.mk (blk_below (g := gb351) (o := .cells #[.int .i64 a1_0, .int .i64 a1_1] 26 (0, 0)) zk hb); have n2_ := Aside0.mk (below_step zb hb); have n3_ := Aside0.mk (hbox); have n4_ := Aside0.mk ((by rw [hg]; exact (below_size zb) : w.heap.size ≤ gb352)); have n5_ := Aside0.mk ((by rw [hg]; exact (below_size zb) : w.heap.size ≤ gb352)); have n6_ := Aside0.mk ((by rw [hg]; exact Nat.ne_of_lt (blk_lt (g := gb350) (o := .cells #[.int .i64 a0_0, .int .i64 a0_1] 26 (0, 0)) zk) : gb350 ≠ gb352)); have n7_ := Aside0.mk ((by rw [hg]; exact Nat.ne_of_gt (blk_lt (g := gb350) (o := .cells #[.int .i64 a0_0, .int .i64 a0_1] 26 (0, 0)) zk) : gb352 ≠ gb350)); have n8_ := Aside0.mk ((by rw [hg]; exact Nat.ne_of_lt (blk_lt (g := gb351) (o := .cells #[.int .i64 a1_0, .int .i64 a1_1] 26 (0, 0)) zk) : gb351 ≠ gb352)); have n9_ := Aside0.mk ((by rw [hg]; exact Nat.ne_of_gt (blk_lt (g := gb351) (o := .cells #[.int .i64 a1_0, .int .i64 a1_1] 26 (0, 0)) zk) : gb352 ≠ gb351)); clear BK350; clear BK351; clear HB; have BK350 := n0_; have BK351 := n1_; have HB := n2_; have BK352 := n3_; have GW352 := n4_; have GE352 := n5_; have NB350_352 := n6_; have NB352_350 := n7_; have NB351_352 := n8_; have NB352_351 := n9_; clear n0_ n1_ n2_ n3_ n4_ n5_ n6_ n7_ n8_ n9_; clear hb hbox hg))
 have n0_ := Aside0.mk (blk_drew BK350.out)
 have n1_ := Aside0.mk (blk_drew BK351.out)
 have n2_ := Aside0.mk (blk_drew BK352.out)
 have n3_ := Aside0.mk (below_drew1 HB.out)
 clear BK350
 clear BK351
 clear BK352
 clear HB
 have BK350 := n0_
 have BK351 := n1_
 have BK352 := n2_
 have HB := n3_
 clear n0_ n1_ n2_ n3_
 refine start_ (n := 8) (S := fun w' => w'.cell? ⟨gb351, 0, none⟩ = some (.int .i64 a1_0) ∧ w'.cell? ⟨gb351, 1, none⟩ = some (.int .i64 a1_1) ∧ w'.cell? ⟨gb350, 0, none⟩ = some (.int .i64 a0_0) ∧ w'.cell? ⟨gb350, 1, none⟩ = some (.int .i64 a0_1) ∧ w'.cell? ⟨gb352, 0, none⟩ = some (.int .i64 a2_0) ∧ w'.cell? ⟨gb352, 1, none⟩ = some (.int .i64 a2_1)) (ds := []) (zl 8 0) (by kernel_rfl) rfl rfl ⟨(blk_cell BK351.out 0).trans rfl, (blk_cell BK351.out 1).trans rfl, (blk_cell BK350.out 0).trans rfl, (blk_cell BK350.out 1).trans rfl, (blk_cell BK352.out 0).trans rfl, (blk_cell BK352.out 1).trans rfl⟩ (fun hHeld => ?_); refine with_tabW impl_turn.tab1 impl_turn.bits1 (fun HT_ HW_ => ?_)
 generalize w9.drew = w10 at BK350 BK351 BK352 HB hHeld ⊢
 refine take_ (i := 0) (N := some 7) (v := ?_) (a' := ?_) (zl 8 1) rfl rfl (take_ofW HT_.out HW_.out (by kernel_rfl)) (fun _ _ _ h => h) (Or.inl ⟨by rfl, ?_⟩) hHeld ?_ ?_
 rotate_left
 ·rintro w' ⟨s0, s1, s2, s3, s4, s5⟩
  go_simp
  with_reducible rfl
 rotate_left
 ·exact zs
 refine take_ (i := 1) (N := some 8) (v := ?_) (a' := ?_) (zl 8 3) rfl rfl (take_ofW HT_.out HW_.out (by kernel_rfl)) (fun _ _ _ h => h) (Or.inl ⟨by rfl, ?_⟩) hHeld ?_ ?_
 rotate_left
 ·rintro w' ⟨s0, s1, s2, s3, s4, s5⟩
  go_simp
  with_reducible rfl
 rotate_left
 ·exact zs
 refine take_ (i := 3) (N := some 10) (v := ?_) (a' := ?_) (zl 8 11) rfl rfl (take_ofW HT_.out HW_.out (by kernel_rfl)) (fun _ _ _ h => h) (Or.inl ⟨by rfl, ?_⟩) hHeld ?_ ?_
 rotate_left
 ·rintro w' ⟨s0, s1, s2, s3, s4, s5⟩
  go_simp
  with_reducible rfl
 rotate_left
 ·exact zs
 refine take_ (i := 4) (N := some 11) (v := ?_) (a' := ?_) (zl 8 27) rfl rfl (take_ofW HT_.out HW_.out (by kernel_rfl)) (fun _ _ _ h => h) (Or.inl ⟨by rfl, ?_⟩) hHeld ?_ ?_
 rotate_left
 ·rintro w' ⟨s0, s1, s2, s3, s4, s5⟩
  go_simp
  with_reducible rfl
 rotate_left
 ·exact zs
 refine one_ (i := 2) (N := some 9) (zl 8 31) rfl rfl (one_of HT_.out (by kernel_rfl)) (by decide) (fun K hK => ?_)
 refine goes_ Try.func202 (by kernel_rfl) rfl #[.agg #[.int .i64 a1_0, .int .i64 a1_1], .agg #[.int .i64 a0_0, .int .i64 a0_1]] (by rfl) rfl rfl zn ?_
 with_reducible refine (impl_Peg_less.calls a1_0 a1_1 a0_0 a0_1 t353 t354 _ A4.out).mono ?_
 rintro e w11 ⟨rfl, hb⟩
 refine ⟨_, rfl, ?_⟩
 have n0_ := Aside0.mk (blk_below (g := gb350) (o := .cells #[.int .i64 a0_0, .int .i64 a0_1] 26 (0, 0)) zk hb)
 have n1_ := Aside0.mk (blk_below (g := gb351) (o := .cells #[.int .i64 a1_0, .int .i64 a1_1] 26 (0, 0)) zk hb)
 have n2_ := Aside0.mk (blk_below (g := gb352) (o := .cells #[.int .i64 a2_0, .int .i64 a2_1] 26 (0, 0)) zk hb)
 have n3_ := Aside0.mk (below_step zb hb)
 clear BK350
 clear BK351
 clear BK352
 clear HB
 have BK350 := n0_
 have BK351 := n1_
 have BK352 := n2_
 have HB := n3_
 clear n0_ n1_ n2_ n3_
 (try clear hb)
 (try clear hb2)
 (try clear hk)
 (try clear hi)
 refine hK.out _ _ ⟨(blk_cell BK351.out 0).trans rfl, (blk_cell BK351.out 1).trans rfl, (blk_cell BK350.out 0).trans rfl, (blk_cell BK350.out 1).trans rfl, (blk_cell BK352.out 0).trans rfl, (blk_cell BK352.out 1).trans rfl⟩ (fun hHeld => ?_)
 clear hK K
 refine norm_ (a' := ?_) ?_ ?_
 rotate_left
 ·show Act.put _ (some 9) _ = _
  exact zs
 refine one_ (i := 5) (N := some 12) (zl 8 63) rfl rfl (one_of HT_.out (by kernel_rfl)) (by decide) (fun K hK => ?_)
 refine goes_ Try.func202 (by kernel_rfl) rfl #[.agg #[.int .i64 a2_0, .int .i64 a2_1], .agg #[.int .i64 a0_0, .int .i64 a0_1]] (by rfl) rfl rfl zn ?_
 with_reducible refine (impl_Peg_less.calls a2_0 a2_1 a0_0 a0_1 t355 t356 _ A5.out).mono ?_
 rintro e w12 ⟨rfl, hb⟩
 refine ⟨_, rfl, ?_⟩
 have n0_ := Aside0.mk (blk_below (g := gb350) (o := .cells #[.int .i64 a0_0, .int .i64 a0_1] 26 (0, 0)) zk hb)
 have n1_ := Aside0.mk (blk_below (g := gb351) (o := .cells #[.int .i64 a1_0, .int .i64 a1_1] 26 (0, 0)) zk hb)
 have n2_ := Aside0.mk (blk_below (g := gb352) (o := .cells #[.int .i64 a2_0, .int .i64 a2_1] 26 (0, 0)) zk hb)
 have n3_ := Aside0.mk (below_step zb hb)
 clear BK350
 clear BK351
 clear BK352
 clear HB
 have BK350 := n0_
 have BK351 := n1_
 have BK352 := n2_
 have HB := n3_
 clear n0_ n1_ n2_ n3_
 (try clear hb)
 (try clear hb2)
 (try clear hk)
 (try clear hi)
 refine hK.out _ _ ⟨(blk_cell BK351.out 0).trans rfl, (blk_cell BK351.out 1).trans rfl, (blk_cell BK350.out 0).trans rfl, (blk_cell BK350.out 1).trans rfl, (blk_cell BK352.out 0).trans rfl, (blk_cell BK352.out 1).trans rfl⟩ (fun hHeld => ?_)
 clear hK K
 refine norm_ (a' := ?_) ?_ ?_
 rotate_left
 ·show Act.put _ (some 12) _ = _
  exact zs
 refine one_ (i := 6) (N := some 13) (zl 8 127) rfl rfl (one_of HT_.out (by kernel_rfl)) (by decide) (fun K hK => ?_)
 refine goes_ Try.func205 (by kernel_rfl) rfl #[.agg #[.int .i64 t353, .int .i64 t354], .agg #[.int .i64 t355, .int .i64 t356]] (by rfl) rfl rfl zn ?_
 with_reducible refine (impl_cross.calls t353 t354 t355 t356 t357 _ A6.out).mono ?_
 rintro e w13 ⟨rfl, hb⟩
 refine ⟨_, rfl, ?_⟩
 have n0_ := Aside0.mk (blk_below (g := gb350) (o := .cells #[.int .i64 a0_0, .int .i64 a0_1] 26 (0, 0)) zk hb)
 have n1_ := Aside0.mk (blk_below (g := gb351) (o := .cells #[.int .i64 a1_0, .int .i64 a1_1] 26 (0, 0)) zk hb)
 have n2_ := Aside0.mk (blk_below (g := gb352) (o := .cells #[.int .i64 a2_0, .int .i64 a2_1] 26 (0, 0)) zk hb)
 have n3_ := Aside0.mk (below_step zb hb)
 clear BK350
 clear BK351
 clear BK352
 clear HB
 have BK350 := n0_
 have BK351 := n1_
 have BK352 := n2_
 have HB := n3_
 clear n0_ n1_ n2_ n3_
 (try clear hb)
 (try clear hb2)
 (try clear hk)
 (try clear hi)
 refine hK.out _ _ ⟨(blk_cell BK351.out 0).trans rfl, (blk_cell BK351.out 1).trans rfl, (blk_cell BK350.out 0).trans rfl, (blk_cell BK350.out 1).trans rfl, (blk_cell BK352.out 0).trans rfl, (blk_cell BK352.out 1).trans rfl⟩ (fun hHeld => ?_)
 clear hK K
 refine norm_ (a' := ?_) ?_ ?_
 rotate_left
 ·show Act.put _ (some 13) _ = _
  exact zs
 refine zp 7 6 8 255 HT_ ?_
 refine done_ (done_of HT_.out (by kernel_rfl)) ?_
 try go_wp2
 go_ret
 exact ⟨by first | rfl | (simp [errW_none, errW_some] <;> rfl) | (simp [*, errW_none, errW_some] <;> rfl), zb⟩
def impl_at.f (l0 : List (S26)) (a1 : Int) : Option (Int × Int) := if (l0.length : Int) = 0 then (none) else (if 0 ≤ (Int.tmod (wrap64 ((Int.tmod a1 (l0.length : Int)) + (l0.length : Int))) (l0.length : Int)) then (if (Int.tmod (wrap64 ((Int.tmod a1 (l0.length : Int)) + (l0.length : Int))) (l0.length : Int)) < (l0.length : Int) then (some ((rd_T26 l0 (Int.tmod (wrap64 ((Int.tmod a1 (l0.length : Int)) + (l0.length : Int))) (l0.length : Int))).f0, (rd_T26 l0 (Int.tmod (wrap64 ((Int.tmod a1 (l0.length : Int)) + (l0.length : Int))) (l0.length : Int))).f1)) else (none)) else (none))
set_option maxHeartbeats 8000000 in
set_option maxRecDepth 100000 in
theorem impl_at.calls (A0 : Option Addr) (c0 : Nat) (l0 : List (S26)) (a1 : Int) (r1 : Int) (r2 : Int) (w : World) (hr0 : Kd.C k26 w A0 l0.length l0) (hc0 : l0.length ≤ c0) (h : impl_at.f l0 a1 = some (r1, r2)) :
  Calls Try.prog 174 #[.slice A0 l0.length c0, .int .i64 a1] w fun e w' => e = .returned (.agg #[.int .i64 r1, .int .i64 r2]) ∧ Below w.heap.size w w' := by
 have hu26 := Try.underlying26
 have HR0 := Aside0.mk hr0
 have HC0 := Aside0.mk hc0
 clear hr0 hc0
 have HB := Aside0.mk (Below.refl w.heap.size w)
 have H : (if (l0.length : Int) = 0 then (none) else (if 0 ≤ (Int.tmod (wrap64 ((Int.tmod a1 (l0.length : Int)) + (l0.length : Int))) (l0.length : Int)) then (if (Int.tmod (wrap64 ((Int.tmod a1 (l0.length : Int)) + (l0.length : Int))) (l0.length : Int)) < (l0.length : Int) then (some ((rd_T26 l0 (Int.tmod (wrap64 ((Int.tmod a1 (l0.length : Int)) + (l0.length : Int))) (l0.length : Int))).f0, (rd_T26 l0 (Int.tmod (wrap64 ((Int.tmod a1 (l0.length : Int)) + (l0.length : Int))) (l0.length : Int))).f1)) else (none)) else (none))) = some (r1, r2) := h
 clear h
 by_cases c3 : (l0.length : Int) = 0
 ·rw [if_pos c3] at H
  exact absurd H (by simp)
 ·rw [if_neg c3] at H
  have c3b0 : ((l0.length : Int) == 0) = false := beq_eq_false_iff_ne.mpr c3
  have c3b1 : ((l0.length : Int) != 0) = true := bne_iff_ne.mpr c3
  have c3b2 : ¬ (l0 = []) := fun h_ => c3 (by rw [h_]; rfl)
  obtain ⟨ji4, hji4⟩ : ∃ j_ : Int, (Int.tmod (wrap64 ((Int.tmod a1 (l0.length : Int)) + (l0.length : Int))) (l0.length : Int)) = j_ := ⟨_, rfl⟩
  replace H : (if 0 ≤ (ji4) then (if (ji4) < (l0.length : Int) then (some ((rd_T26 l0 (ji4)).f0, (rd_T26 l0 (ji4)).f1)) else (none)) else (none)) = some (r1, r2) := by first | (rw [hji4] at H; exact H) | (simp only [hji4] at H ⊢; exact H)
  by_cases c5 : 0 ≤ (ji4)
  ·rw [if_pos c5] at H
   have c5b0 : decide (0 ≤ (ji4)) = true := decide_eq_true c5
   clear c5
   by_cases c6 : (ji4) < (l0.length : Int)
   ·rw [if_pos c6] at H
    have c6b0 : decide ((ji4) < (l0.length : Int)) = true := decide_eq_true c6
    clear c6
    simp only [Option.some.injEq, Prod.mk.injEq] at H
    obtain ⟨rfl, rfl⟩ := H
    go_enter Try.func174, Try.ntmps174
    go_wp2_with (first | ((with_reducible refine gate_dst (N := 4) rfl ?_); refine box_event ?hg (N := 4) ?hd (cs := #[.int .i64 0, .int .i64 0]) (t := 26) ?hr ?_; (case hd => rfl); (case hg => rfl); (case hr => first | (go_simp; done) | (go_simp; rfl)); intro gb358 hg w7 hbox hb; have n0_ := Aside0.mk (below_step zb hb); have n1_ := Aside0.mk (hbox); have n2_ := Aside0.mk ((by rw [hg]; exact (below_size zb) : w.heap.size ≤ gb358)); have n3_ := Aside0.mk ((by rw [hg]; exact (below_size zb) : w.heap.size ≤ gb358)); clear HB; have HB := n0_; have BK358 := n1_; have GW358 := n2_; have GE358 := n3_; clear n0_ n1_ n2_ n3_; clear hb hbox hg; have p359 : 0 ≤ ((ji4) : Int) := of_decide_eq_true (by first | (with_reducible assumption) | assumption); have q359 : (ji4) < (l0.length : Int) := of_decide_eq_true (by first | (with_reducible assumption) | assumption); obtain ⟨ad359, e359, hx359_0, hx359_1⟩ := at_T26 HR0.out (ji4) p359 q359; cases e359; replace hx359_0 := zc HB hx359_0; replace hx359_1 := zc HB hx359_1; replace p359 := eq_true p359; replace q359 := eq_true q359; have hcz8_0 : w7.cell? ⟨gb358, 0, none⟩ = some (.int .i64 0) := (blk_cell BK358.out 0).trans rfl; have hcz8_1 : w7.cell? ⟨gb358, 1, none⟩ = some (.int .i64 0) := (blk_cell BK358.out 1).trans rfl; have hfz8_0 := blk_frozen BK358.out 0; have hfz8_1 := blk_frozen BK358.out 1))
    refine bodyPost_ret (results_cell_row rfl _ _ gb358 26 #[.int .i64 ((rd_T26 l0 (ji4)).f0), .int .i64 ((rd_T26 l0 (ji4)).f1)] (0, 0) _ rfl (by (with_reducible repeat (first | refine blk_drewN ?_ _ | refine blk_drew ?_ | refine blk_alloc ?_ _)); refine blk_put (cs := #[.int .i64 ((rd_T26 l0 (ji4)).f0), .int .i64 0]) ?_ 1 _ rfl; (with_reducible repeat (first | refine blk_drewN ?_ _ | refine blk_drew ?_ | refine blk_alloc ?_ _)); refine blk_put (cs := #[.int .i64 0, .int .i64 0]) ?_ 0 _ rfl; (with_reducible repeat (first | refine blk_drewN ?_ _ | refine blk_drew ?_ | refine blk_alloc ?_ _)); exact BK358.out) Try.underlying26 rfl (by kernel_rfl)) rfl ?_
    exact ⟨by first | rfl | (simp [errW_none, errW_some] <;> rfl) | (simp only [← hji4]; first | rfl | (simp [errW_none, errW_some] <;> rfl)) | (simp [*, errW_none, errW_some] <;> rfl), zb⟩
   ·rw [if_neg c6] at H
    exact absurd H (by simp)
  ·rw [if_neg c5] at H
   exact absurd H (by simp)
def impl_isOn.f (a0_0 : Int) (a0_1 : Int) (a1_0 : Int) (a1_1 : Int) (a2_0 : Int) (a2_1 : Int) : Option (Bool) := (impl_turn.f a0_0 a0_1 a1_0 a1_1 a2_0 a2_1).bind fun t363 => (if t363 = 0 then ((impl_within.f a2_0 (mn a0_0 a1_0) (mx a0_0 a1_0)).bind fun t364 => (if t364 = true then ((impl_within.f a2_1 (mn a0_1 a1_1) (mx a0_1 a1_1)).bind fun t365 => (some t365)) else (some false))) else (some false))
set_option maxHeartbeats 8000000 in
set_option maxRecDepth 100000 in
theorem impl_isOn.calls (a0_0 : Int) (a0_1 : Int) (a1_0 : Int) (a1_1 : Int) (a2_0 : Int) (a2_1 : Int) (r : Bool) (w : World) (h : impl_isOn.f a0_0 a0_1 a1_0 a1_1 a2_0 a2_1 = some r) :
  Calls Try.prog 178 #[.agg #[.int .i64 a0_0, .int .i64 a0_1], .agg #[.int .i64 a1_0, .int .i64 a1_1], .agg #[.int .i64 a2_0, .int .i64 a2_1]] w fun e w' => e = .returned (.bool r) ∧ Below w.heap.size w w' := by
 have hu26 := Try.underlying26
 have HB := Aside0.mk (Below.refl w.heap.size w)
 have H : ((impl_turn.f a0_0 a0_1 a1_0 a1_1 a2_0 a2_1).bind fun t363 => (if t363 = 0 then ((impl_within.f a2_0 (mn a0_0 a1_0) (mx a0_0 a1_0)).bind fun t364 => (if t364 = true then ((impl_within.f a2_1 (mn a0_1 a1_1) (mx a0_1 a1_1)).bind fun t365 => (some t365)) else (some false))) else (some false))) = some r := h
 clear h
 replace H := Option.bind_eq_some_iff.mp H
 obtain ⟨t363, A40, H⟩ := H
 replace H : (if t363 = 0 then ((impl_within.f a2_0 (mn a0_0 a1_0) (mx a0_0 a1_0)).bind fun t364 => (if t364 = true then ((impl_within.f a2_1 (mn a0_1 a1_1) (mx a0_1 a1_1)).bind fun t365 => (some t365)) else (some false))) else (some false)) = some r := H
 have A4 := Aside0.mk A40
 clear A40
 by_cases c5 : t363 = 0
 ·rw [if_pos c5] at H
  have c5b0 : (t363 == 0) = true := beq_iff_eq.mpr c5
  have c5b1 : (t363 != 0) = false := bne_eq_false_iff_eq.mpr c5
  clear c5
  obtain ⟨ji6, hji6⟩ : ∃ j_ : Int, (mn a0_0 a1_0) = j_ := ⟨_, rfl⟩
  replace H : ((impl_within.f a2_0 (ji6) (mx a0_0 a1_0)).bind fun t364 => (if t364 = true then ((impl_within.f a2_1 (mn a0_1 a1_1) (mx a0_1 a1_1)).bind fun t365 => (some t365)) else (some false))) = some r := by first | (rw [hji6] at H; exact H) | (simp only [hji6] at H ⊢; exact H)
  (try rw [hji6] at A4)
  have hji6_ : (if a1_0 < a0_0 then a1_0 else a0_0) = ji6 := hji6
  obtain ⟨ji7, hji7⟩ : ∃ j_ : Int, (mx a0_0 a1_0) = j_ := ⟨_, rfl⟩
  replace H : ((impl_within.f a2_0 (ji6) (ji7)).bind fun t364 => (if t364 = true then ((impl_within.f a2_1 (mn a0_1 a1_1) (mx a0_1 a1_1)).bind fun t365 => (some t365)) else (some false))) = some r := by first | (rw [hji7] at H; exact H) | (simp only [hji7] at H ⊢; exact H)
  (try rw [hji7] at A4)
  have hji7_ : (if a0_0 < a1_0 then a1_0 else a0_0) = ji7 := hji7
  replace H := Option.bind_eq_some_iff.mp H
  obtain ⟨t364, A80, H⟩ := H
  replace H : (if t364 = true then ((impl_within.f a2_1 (mn a0_1 a1_1) (mx a0_1 a1_1)).bind fun t365 => (some t365)) else (some false)) = some r := H
  have A8 := Aside0.mk A80
  clear A80
  by_cases c9 : t364 = true
  ·subst c9
   have H1 : ((impl_within.f a2_1 (mn a0_1 a1_1) (mx a0_1 a1_1)).bind fun t365 => (some t365)) = some r := by rw [if_pos rfl] at H; exact H
   clear H
   have H := H1
   clear H1
   obtain ⟨ji10, hji10⟩ : ∃ j_ : Int, (mn a0_1 a1_1) = j_ := ⟨_, rfl⟩
   replace H : ((impl_within.f a2_1 (ji10) (mx a0_1 a1_1)).bind fun t365 => (some t365)) = some r := by first | (rw [hji10] at H; exact H) | (simp only [hji10] at H ⊢; exact H)
   (try rw [hji10] at A4)
   (try rw [hji10] at A8)
   have hji10_ : (if a1_1 < a0_1 then a1_1 else a0_1) = ji10 := hji10
   obtain ⟨ji11, hji11⟩ : ∃ j_ : Int, (mx a0_1 a1_1) = j_ := ⟨_, rfl⟩
   replace H : ((impl_within.f a2_1 (ji10) (ji11)).bind fun t365 => (some t365)) = some r := by first | (rw [hji11] at H; exact H) | (simp only [hji11] at H ⊢; exact H)
   (try rw [hji11] at A4)
   (try rw [hji11] at A8)
   have hji11_ : (if a0_1 < a1_1 then a1_1 else a0_1) = ji11 := hji11
   replace H := Option.bind_eq_some_iff.mp H
   obtain ⟨t365, A120, H⟩ := H
   replace H : (some t365) = some r := H
   have A12 := Aside0.mk A120
   clear A120
   obtain rfl := Option.some.inj H
   go_enter Try.func178, Try.ntmps178
   go_wp2_with (first | ((with_reducible refine gate_dst (N := 3) rfl ?_); (try (refine gate_guard (by rfl) ?_; dsimp only)); refine box_event ?hg (N := 3) ?hd (cs := #[.int .i64 a0_0, .int .i64 a0_1]) (t := 26) ?hr ?_; (case hd => rfl); (case hg => rfl); (case hr => first | (go_simp; done) | (go_simp; rfl)); intro gb360 hg w13 hbox hb; have n0_ := Aside0.mk (below_step zb hb); have n1_ := Aside0.mk (hbox); have n2_ := Aside0.mk ((by rw [hg]; exact (below_size zb) : w.heap.size ≤ gb360)); have n3_ := Aside0.mk ((by rw [hg]; exact (below_size zb) : w.heap.size ≤ gb360)); clear HB; have HB := n0_; have BK360 := n1_; have GW360 := n2_; have GE360 := n3_; clear n0_ n1_ n2_ n3_; clear hb hbox hg) | ((with_reducible refine gate_dst (N := 4) rfl ?_); (try (refine gate_guard (by rfl) ?_; dsimp only)); refine box_event ?hg (N := 4) ?hd (cs := #[.int .i64 a1_0, .int .i64 a1_1]) (t := 26) ?hr ?_; (case hd => rfl); (case hg => rfl); (case hr => first | (go_simp; done) | (go_simp; rfl)); intro gb361 hg w14 hbox hb; have n0_ := Aside0.mk (blk_below (g := gb360) (o := .cells #[.int .i64 a0_0, .int .i64 a0_1] 26 (0, 0)) zk hb); have n1_ := Aside0.mk (below_step zb hb); have n2_ := Aside0.mk (hbox); have n3_ := Aside0.mk ((by rw [hg]; exact (below_size zb) : w.heap.size ≤ gb361)); have n4_ := Aside0.mk ((by rw [hg]; exact (below_size zb) : w.heap.size ≤ gb361)); have n5_ := Aside0.mk ((by rw [hg]; exact Nat.ne_of_lt (blk_lt (g := gb360) (o := .cells #[.int .i64 a0_0, .int .i64 a0_1] 26 (0, 0)) zk) : gb360 ≠ gb361)); have n6_ := Aside0.mk ((by rw [hg]; exact Nat.ne_of_gt (blk_lt (g := gb360) (o := .cells #[.int .i64 a0_0, .int .i64 a0_1] 26 (0, 0)) zk) : gb361 ≠ gb360)); clear BK360; clear HB; have BK360 := n0_; have HB := n1_; have BK361 := n2_; have GW361 := n3_; have GE361 := n4_; have NB360_361 := n5_; have NB361_360 := n6_; clear n0_ n1_ n2_ n3_ n4_ n5_ n6_; clear hb hbox hg) | ((with_reducible refine gate_dst (N := 5) rfl ?_); (try (refine gate_guard (by rfl) ?_; dsimp only)); refine box_event ?hg (N := 5) ?hd (cs := #[.int .i64 a2_0, .int .i64 a2_1]) (t := 26) ?hr ?_; (case hd => rfl); (case hg => rfl); (case hr => first | (go_simp; done) | (go_simp; rfl)); intro gb362 hg w15 hbox hb; have n0_ := Aside0.mk (blk_below (g := gb360) (o := .cells #[.int .i64 a0_0, .int .i64 a0_1] 26 (0, 0)) zk hb); have n1_ := Aside0.mk (blk_below (g := gb361) (o := .cells #[.int .i64 a1_0, .int .i64 a1_1] 26 (0, 0)) zk hb); have n2_ := Aside0.mk (below_step zb hb); have n3_ := Aside0.mk (hbox); have n4_ := Aside0.mk ((by rw [hg]; exact (below_size zb) : w.heap.size ≤ gb362)); have n5_ := Aside0.mk ((by rw [hg]; exact (below_size zb) : w.heap.size ≤ gb362)); have n6_ := Aside0.mk ((by rw [hg]; exact Nat.ne_of_lt (blk_lt (g := gb360) (o := .cells #[.int .i64 a0_0, .int .i64 a0_1] 26 (0, 0)) zk) : gb360 ≠ gb362)); have n7_ := Aside0.mk ((by rw [hg]; exact Nat.ne_of_gt (blk_lt (g := gb360) (o := .cells #[.int .i64 a0_0, .int .i64 a0_1] 26 (0, 0)) zk) : gb362 ≠ gb360)); have n8_ := Aside0.mk ((by rw [hg]; exact Nat.ne_of_lt (blk_lt (g := gb361) (o := .cells #[.int .i64 a1_0, .int .i64 a1_1] 26 (0, 0)) zk) : gb361 ≠ gb362)); have n9_ := Aside0.mk ((by rw [hg]; exact Nat.ne_of_gt (blk_lt (g := gb361) (o := .cells #[.int .i64 a1_0, .int .i64 a1_1] 26 (0, 0)) zk) : gb362 ≠ gb361)); clear BK360; clear BK361; clear HB; have BK360 := n0_; have BK361 := n1_; have HB := n2_; have BK362 := n3_; have GW362 := n4_; have GE362 := n5_; have NB360_362 := n6_; have NB362_360 := n7_; have NB361_362 := n8_; have NB362_361 := n9_; clear n0_ n1_ n2_ n3_ n4_ n5_ n6_ n7_ n8_ n9_; clear hb hbox hg; have hnb16 := NB360_361.out; have hnc16 := NB361_360.out; have hnb17 := NB360_362.out; have hnc17 := NB362_360.out; have hcz18_0 : w15.cell? ⟨gb360, 0, none⟩ = some (.int .i64 a0_0) := (blk_cell BK360.out 0).trans rfl; have hcz18_1 : w15.cell? ⟨gb360, 1, none⟩ = some (.int .i64 a0_1) := (blk_cell BK360.out 1).trans rfl; have hfz18_0 := blk_frozen BK360.out 0; have hfz18_1 := blk_frozen BK360.out 1; have hnb19 := NB361_362.out; have hnc19 := NB362_361.out; have hcz20_0 : w15.cell? ⟨gb361, 0, none⟩ = some (.int .i64 a1_0) := (blk_cell BK361.out 0).trans rfl; have hcz20_1 : w15.cell? ⟨gb361, 1, none⟩ = some (.int .i64 a1_1) := (blk_cell BK361.out 1).trans rfl; have hfz20_0 := blk_frozen BK361.out 0; have hfz20_1 := blk_frozen BK361.out 1; have hcz21_0 : w15.cell? ⟨gb362, 0, none⟩ = some (.int .i64 a2_0) := (blk_cell BK362.out 0).trans rfl; have hcz21_1 : w15.cell? ⟨gb362, 1, none⟩ = some (.int .i64 a2_1) := (blk_cell BK362.out 1).trans rfl; have hfz21_0 := blk_frozen BK362.out 0; have hfz21_1 := blk_frozen BK362.out 1) | ((with_reducible refine gate_callee (f := 173) rfl ?_); refine goesL_ (some 10) rfl rfl Try.func173 (by kernel_rfl) rfl #[.agg #[.int .i64 a0_0, .int .i64 a0_1], .agg #[.int .i64 a1_0, .int .i64 a1_1], .agg #[.int .i64 a2_0, .int .i64 a2_1]] rfl zn ?_; (with_reducible refine (impl_turn.calls a0_0 a0_1 a1_0 a1_1 a2_0 a2_1 t363 _ A4.out).mono ?_); rintro e w22 ⟨rfl, hb⟩; refine ⟨_, rfl, ?_⟩; have n0_ := Aside0.mk (blk_below (g := gb360) (o := .cells #[.int .i64 a0_0, .int .i64 a0_1] 26 (0, 0)) zk hb); have n1_ := Aside0.mk (blk_below (g := gb361) (o := .cells #[.int .i64 a1_0, .int .i64 a1_1] 26 (0, 0)) zk hb); have n2_ := Aside0.mk (blk_below (g := gb362) (o := .cells #[.int .i64 a2_0, .int .i64 a2_1] 26 (0, 0)) zk hb); have n3_ := Aside0.mk (below_step zb hb); clear BK360; clear BK361; clear BK362; clear HB; have BK360 := n0_; have BK361 := n1_; have BK362 := n2_; have HB := n3_; clear n0_ n1_ n2_ n3_; (try clear hb); (try clear hb2); (try clear hk); (try clear hi); have hcz23_0 : w22.cell? ⟨gb362, 0, none⟩ = some (.int .i64 a2_0) := (blk_cell BK362.out 0).trans rfl; have hcz23_1 : w22.cell? ⟨gb362, 1, none⟩ = some (.int .i64 a2_1) := (blk_cell BK362.out 1).trans rfl; have hfz23_0 := blk_frozen BK362.out 0; have hfz23_1 := blk_frozen BK362.out 1; have hcz24_0 : w22.cell? ⟨gb360, 0, none⟩ = some (.int .i64 a0_0) := (blk_cell BK360.out 0).trans rfl; have hcz24_1 : w22.cell? ⟨gb360, 1, none⟩ = some (.int .i64 a0_1) := (blk_cell BK360.out 1).trans rfl; have hfz24_0 := blk_frozen BK360.out 0; have hfz24_1 := blk_frozen BK360.out 1; have hcz25_0 : w22.cell? ⟨gb361, 0, none⟩ = some (.int .i64 a1_0) := (blk_cell BK361.out 0).trans rfl; have hcz25_1 : w22.cell? ⟨gb361, 1, none⟩ = some (.int .i64 a1_1) := (blk_cell BK361.out 1).trans rfl; have hfz25_0 := blk_frozen BK361.out 0; have hfz25_1 := blk_frozen BK361.out 1) | (go_at_call 135; (with_reducible refine (impl_within.calls a2_0 ji6 ji7 true _ A8.out).mono ?_); rintro e w' ⟨rfl, ⟨nd, rfl⟩⟩) | (go_at_call 135; (with_reducible refine (impl_within.calls a2_1 ji10 ji11 t365 _ A12.out).mono ?_); rintro e w' ⟨rfl, ⟨nd, rfl⟩⟩))
   go_ret
   exact ⟨by first | rfl | (simp [errW_none, errW_some] <;> rfl) | (simp only [← hji6, ← hji7, ← hji10, ← hji11]; first | rfl | (simp [errW_none, errW_some] <;> rfl)) | (simp [*, errW_none, errW_some] <;> rfl), zb⟩
  ·replace c9 := Bool.eq_false_iff.mpr c9
   subst c9
   have H1 : (some false) = some r := by rw [if_neg (show ¬ (false = true) by decide)] at H; exact H
   clear H
   have H := H1
   clear H1
   obtain rfl := Option.some.inj H
   go_enter Try.func178, Try.ntmps178
   go_wp2_with (first | ((with_reducible refine gate_dst (N := 3) rfl ?_); (try (refine gate_guard (by rfl) ?_; dsimp only)); refine box_event ?hg (N := 3) ?hd (cs := #[.int .i64 a0_0, .int .i64 a0_1]) (t := 26) ?hr ?_; (case hd => rfl); (case hg => rfl); (case hr => first | (go_simp; done) | (go_simp; rfl)); intro gb360 hg w26 hbox hb; have n0_ := Aside0.mk (below_step zb hb); have n1_ := Aside0.mk (hbox); have n2_ := Aside0.mk ((by rw [hg]; exact (below_size zb) : w.heap.size ≤ gb360)); have n3_ := Aside0.mk ((by rw [hg]; exact (below_size zb) : w.heap.size ≤ gb360)); clear HB; have HB := n0_; have BK360 := n1_; have GW360 := n2_; have GE360 := n3_; clear n0_ n1_ n2_ n3_; clear hb hbox hg) | ((with_reducible refine gate_dst (N := 4) rfl ?_); (try (refine gate_guard (by rfl) ?_; dsimp only)); refine box_event ?hg (N := 4) ?hd (cs := #[.int .i64 a1_0, .int .i64 a1_1]) (t := 26) ?hr ?_; (case hd => rfl); (case hg => rfl); (case hr => first | (go_simp; done) | (go_simp; rfl)); intro gb361 hg w27 hbox hb; have n0_ := Aside0.mk (blk_below (g := gb360) (o := .cells #[.int .i64 a0_0, .int .i64 a0_1] 26 (0, 0)) zk hb); have n1_ := Aside0.mk (below_step zb hb); have n2_ := Aside0.mk (hbox); have n3_ := Aside0.mk ((by rw [hg]; exact (below_size zb) : w.heap.size ≤ gb361)); have n4_ := Aside0.mk ((by rw [hg]; exact (below_size zb) : w.heap.size ≤ gb361)); have n5_ := Aside0.mk ((by rw [hg]; exact Nat.ne_of_lt (blk_lt (g := gb360) (o := .cells #[.int .i64 a0_0, .int .i64 a0_1] 26 (0, 0)) zk) : gb360 ≠ gb361)); have n6_ := Aside0.mk ((by rw [hg]; exact Nat.ne_of_gt (blk_lt (g := gb360) (o := .cells #[.int .i64 a0_0, .int .i64 a0_1] 26 (0, 0)) zk) : gb361 ≠ gb360)); clear BK360; clear HB; have BK360 := n0_; have HB := n1_; have BK361 := n2_; have GW361 := n3_; have GE361 := n4_; have NB360_361 := n5_; have NB361_360 := n6_; clear n0_ n1_ n2_ n3_ n4_ n5_ n6_; clear hb hbox hg) | ((with_reducible refine gate_dst (N := 5) rfl ?_); (try (refine gate_guard (by rfl) ?_; dsimp only)); refine box_event ?hg (N := 5) ?hd (cs := #[.int .i64 a2_0, .int .i64 a2_1]) (t := 26) ?hr ?_; (case hd => rfl); (case hg => rfl); (case hr => first | (go_simp; done) | (go_simp; rfl)); intro gb362 hg w28 hbox hb; have n0_ := Aside0.mk (blk_below (g := gb360) (o := .cells #[.int .i64 a0_0, .int .i64 a0_1] 26 (0, 0)) zk hb); have n1_ := Aside0.mk (blk_below (g := gb361) (o := .cells #[.int .i64 a1_0, .int .i64 a1_1] 26 (0, 0)) zk hb); have n2_ := Aside0.mk (below_step zb hb); have n3_ := Aside0.mk (hbox); have n4_ := Aside0.mk ((by rw [hg]; exact (below_size zb) : w.heap.size ≤ gb362)); have n5_ := Aside0.mk ((by rw [hg]; exact (below_size zb) : w.heap.size ≤ gb362)); have n6_ := Aside0.mk ((by rw [hg]; exact Nat.ne_of_lt (blk_lt (g := gb360) (o := .cells #[.int .i64 a0_0, .int .i64 a0_1] 26 (0, 0)) zk) : gb360 ≠ gb362)); have n7_ := Aside0.mk ((by rw [hg]; exact Nat.ne_of_gt (blk_lt (g := gb360) (o := .cells #[.int .i64 a0_0, .int .i64 a0_1] 26 (0, 0)) zk) : gb362 ≠ gb360)); have n8_ := Aside0.mk ((by rw [hg]; exact Nat.ne_of_lt (blk_lt (g := gb361) (o := .cells #[.int .i64 a1_0, .int .i64 a1_1] 26 (0, 0)) zk) : gb361 ≠ gb362)); have n9_ := Aside0.mk ((by rw [hg]; exact Nat.ne_of_gt (blk_lt (g := gb361) (o := .cells #[.int .i64 a1_0, .int .i64 a1_1] 26 (0, 0)) zk) : gb362 ≠ gb361)); clear BK360; clear BK361; clear HB; have BK360 := n0_; have BK361 := n1_; have HB := n2_; have BK362 := n3_; have GW362 := n4_; have GE362 := n5_; have NB360_362 := n6_; have NB362_360 := n7_; have NB361_362 := n8_; have NB362_361 := n9_; clear n0_ n1_ n2_ n3_ n4_ n5_ n6_ n7_ n8_ n9_; clear hb hbox hg; have hnb29 := NB360_361.out; have hnc29 := NB361_360.out; have hnb30 := NB360_362.out; have hnc30 := NB362_360.out; have hcz31_0 : w28.cell? ⟨gb360, 0, none⟩ = some (.int .i64 a0_0) := (blk_cell BK360.out 0).trans rfl; have hcz31_1 : w28.cell? ⟨gb360, 1, none⟩ = some (.int .i64 a0_1) := (blk_cell BK360.out 1).trans rfl; have hfz31_0 := blk_frozen BK360.out 0; have hfz31_1 := blk_frozen BK360.out 1; have hnb32 := NB361_362.out; have hnc32 := NB362_361.out; have hcz33_0 : w28.cell? ⟨gb361, 0, none⟩ = some (.int .i64 a1_0) := (blk_cell BK361.out 0).trans rfl; have hcz33_1 : w28.cell? ⟨gb361, 1, none⟩ = some (.int .i64 a1_1) := (blk_cell BK361.out 1).trans rfl; have hfz33_0 := blk_frozen BK361.out 0; have hfz33_1 := blk_frozen BK361.out 1; have hcz34_0 : w28.cell? ⟨gb362, 0, none⟩ = some (.int .i64 a2_0) := (blk_cell BK362.out 0).trans rfl; have hcz34_1 : w28.cell? ⟨gb362, 1, none⟩ = some (.int .i64 a2_1) := (blk_cell BK362.out 1).trans rfl; have hfz34_0 := blk_frozen BK362.out 0; have hfz34_1 := blk_frozen BK362.out 1) | ((with_reducible refine gate_callee (f := 173) rfl ?_); refine goesL_ (some 10) rfl rfl Try.func173 (by kernel_rfl) rfl #[.agg #[.int .i64 a0_0, .int .i64 a0_1], .agg #[.int .i64 a1_0, .int .i64 a1_1], .agg #[.int .i64 a2_0, .int .i64 a2_1]] rfl zn ?_; (with_reducible refine (impl_turn.calls a0_0 a0_1 a1_0 a1_1 a2_0 a2_1 t363 _ A4.out).mono ?_); rintro e w35 ⟨rfl, hb⟩; refine ⟨_, rfl, ?_⟩; have n0_ := Aside0.mk (blk_below (g := gb360) (o := .cells #[.int .i64 a0_0, .int .i64 a0_1] 26 (0, 0)) zk hb); have n1_ := Aside0.mk (blk_below (g := gb361) (o := .cells #[.int .i64 a1_0, .int .i64 a1_1] 26 (0, 0)) zk hb); have n2_ := Aside0.mk (blk_below (g := gb362) (o := .cells #[.int .i64 a2_0, .int .i64 a2_1] 26 (0, 0)) zk hb); have n3_ := Aside0.mk (below_step zb hb); clear BK360; clear BK361; clear BK362; clear HB; have BK360 := n0_; have BK361 := n1_; have BK362 := n2_; have HB := n3_; clear n0_ n1_ n2_ n3_; (try clear hb); (try clear hb2); (try clear hk); (try clear hi); have hcz36_0 : w35.cell? ⟨gb362, 0, none⟩ = some (.int .i64 a2_0) := (blk_cell BK362.out 0).trans rfl; have hcz36_1 : w35.cell? ⟨gb362, 1, none⟩ = some (.int .i64 a2_1) := (blk_cell BK362.out 1).trans rfl; have hfz36_0 := blk_frozen BK362.out 0; have hfz36_1 := blk_frozen BK362.out 1; have hcz37_0 : w35.cell? ⟨gb360, 0, none⟩ = some (.int .i64 a0_0) := (blk_cell BK360.out 0).trans rfl; have hcz37_1 : w35.cell? ⟨gb360, 1, none⟩ = some (.int .i64 a0_1) := (blk_cell BK360.out 1).trans rfl; have hfz37_0 := blk_frozen BK360.out 0; have hfz37_1 := blk_frozen BK360.out 1; have hcz38_0 : w35.cell? ⟨gb361, 0, none⟩ = some (.int .i64 a1_0) := (blk_cell BK361.out 0).trans rfl; have hcz38_1 : w35.cell? ⟨gb361, 1, none⟩ = some (.int .i64 a1_1) := (blk_cell BK361.out 1).trans rfl; have hfz38_0 := blk_frozen BK361.out 0; have hfz38_1 := blk_frozen BK361.out 1) | (go_at_call 135; (with_reducible refine (impl_within.calls a2_0 ji6 ji7 false _ A8.out).mono ?_); rintro e w' ⟨rfl, ⟨nd, rfl⟩⟩))
   go_ret
   exact ⟨by first | rfl | (simp [errW_none, errW_some] <;> rfl) | (simp only [← hji6, ← hji7]; first | rfl | (simp [errW_none, errW_some] <;> rfl)) | (simp [*, errW_none, errW_some] <;> rfl), zb⟩
 ·rw [if_neg c5] at H
  have c5b0 : (t363 == 0) = false := beq_eq_false_iff_ne.mpr c5
  have c5b1 : (t363 != 0) = true := bne_iff_ne.mpr c5
  obtain rfl := Option.some.inj H
  go_enter Try.func178, Try.ntmps178
  go_wp2_with (first | ((with_reducible refine gate_dst (N := 3) rfl ?_); (try (refine gate_guard (by rfl) ?_; dsimp only)); refine box_event ?hg (N := 3) ?hd (cs := #[.int .i64 a0_0, .int .i64 a0_1]) (t := 26) ?hr ?_; (case hd => rfl); (case hg => rfl); (case hr => first | (go_simp; done) | (go_simp; rfl)); intro gb360 hg w39 hbox hb; have n0_ := Aside0.mk (below_step zb hb); have n1_ := Aside0.mk (hbox); have n2_ := Aside0.mk ((by rw [hg]; exact (below_size zb) : w.heap.size ≤ gb360)); have n3_ := Aside0.mk ((by rw [hg]; exact (below_size zb) : w.heap.size ≤ gb360)); clear HB; have HB := n0_; have BK360 := n1_; have GW360 := n2_; have GE360 := n3_; clear n0_ n1_ n2_ n3_; clear hb hbox hg) | ((with_reducible refine gate_dst (N := 4) rfl ?_); (try (refine gate_guard (by rfl) ?_; dsimp only)); refine box_event ?hg (N := 4) ?hd (cs := #[.int .i64 a1_0, .int .i64 a1_1]) (t := 26) ?hr ?_; (case hd => rfl); (case hg => rfl); (case hr => first | (go_simp; done) | (go_simp; rfl)); intro gb361 hg w40 hbox hb; have n0_ := Aside0.mk (blk_below (g := gb360) (o := .cells #[.int .i64 a0_0, .int .i64 a0_1] 26 (0, 0)) zk hb); have n1_ := Aside0.mk (below_step zb hb); have n2_ := Aside0.mk (hbox); have n3_ := Aside0.mk ((by rw [hg]; exact (below_size zb) : w.heap.size ≤ gb361)); have n4_ := Aside0.mk ((by rw [hg]; exact (below_size zb) : w.heap.size ≤ gb361)); have n5_ := Aside0.mk ((by rw [hg]; exact Nat.ne_of_lt (blk_lt (g := gb360) (o := .cells #[.int .i64 a0_0, .int .i64 a0_1] 26 (0, 0)) zk) : gb360 ≠ gb361)); have n6_ := Aside0.mk ((by rw [hg]; exact Nat.ne_of_gt (blk_lt (g := gb360) (o := .cells #[.int .i64 a0_0, .int .i64 a0_1] 26 (0, 0)) zk) : gb361 ≠ gb360)); clear BK360; clear HB; have BK360 := n0_; have HB := n1_; have BK361 := n2_; have GW361 := n3_; have GE361 := n4_; have NB360_361 := n5_; have NB361_360 := n6_; clear n0_ n1_ n2_ n3_ n4_ n5_ n6_; clear hb hbox hg) | ((with_reducible refine gate_dst (N := 5) rfl ?_); (try (refine gate_guard (by rfl) ?_; dsimp only)); refine box_event ?hg (N := 5) ?hd (cs := #[.int .i64 a2_0, .int .i64 a2_1]) (t := 26) ?hr ?_; (case hd => rfl); (case hg => rfl); (case hr => first | (go_simp; done) | (go_simp; rfl)); intro gb362 hg w41 hbox hb; have n0_ := Aside0.mk (blk_below (g := gb360) (o := .cells #[.int .i64 a0_0, .int .i64 a0_1] 26 (0, 0)) zk hb); have n1_ := Aside0.mk (blk_below (g := gb361) (o := .cells #[.int .i64 a1_0, .int .i64 a1_1] 26 (0, 0)) zk hb); have n2_ := Aside0.mk (below_step zb hb); have n3_ := Aside0.mk (hbox); have n4_ := Aside0.mk ((by rw [hg]; exact (below_size zb) : w.heap.size ≤ gb362)); have n5_ := Aside0.mk ((by rw [hg]; exact (below_size zb) : w.heap.size ≤ gb362)); have n6_ := Aside0.mk ((by rw [hg]; exact Nat.ne_of_lt (blk_lt (g := gb360) (o := .cells #[.int .i64 a0_0, .int .i64 a0_1] 26 (0, 0)) zk) : gb360 ≠ gb362)); have n7_ := Aside0.mk ((by rw [hg]; exact Nat.ne_of_gt (blk_lt (g := gb360) (o := .cells #[.int .i64 a0_0, .int .i64 a0_1] 26 (0, 0)) zk) : gb362 ≠ gb360)); have n8_ := Aside0.mk ((by rw [hg]; exact Nat.ne_of_lt (blk_lt (g := gb361) (o := .cells #[.int .i64 a1_0, .int .i64 a1_1] 26 (0, 0)) zk) : gb361 ≠ gb362)); have n9_ := Aside0.mk ((by rw [hg]; exact Nat.ne_of_gt (blk_lt (g := gb361) (o := .cells #[.int .i64 a1_0, .int .i64 a1_1] 26 (0, 0)) zk) : gb362 ≠ gb361)); clear BK360; clear BK361; clear HB; have BK360 := n0_; have BK361 := n1_; have HB := n2_; have BK362 := n3_; have GW362 := n4_; have GE362 := n5_; have NB360_362 := n6_; have NB362_360 := n7_; have NB361_362 := n8_; have NB362_361 := n9_; clear n0_ n1_ n2_ n3_ n4_ n5_ n6_ n7_ n8_ n9_; clear hb hbox hg; have hnb42 := NB360_361.out; have hnc42 := NB361_360.out; have hnb43 := NB360_362.out; have hnc43 := NB362_360.out; have hcz44_0 : w41.cell? ⟨gb360, 0, none⟩ = some (.int .i64 a0_0) := (blk_cell BK360.out 0).trans rfl; have hcz44_1 : w41.cell? ⟨gb360, 1, none⟩ = some (.int .i64 a0_1) := (blk_cell BK360.out 1).trans rfl; have hfz44_0 := blk_frozen BK360.out 0; have hfz44_1 := blk_frozen BK360.out 1; have hnb45 := NB361_362.out; have hnc45 := NB362_361.out; have hcz46_0 : w41.cell? ⟨gb361, 0, none⟩ = some (.int .i64 a1_0) := (blk_cell BK361.out 0).trans rfl; have hcz46_1 : w41.cell? ⟨gb361, 1, none⟩ = some (.int .i64 a1_1) := (blk_cell BK361.out 1).trans rfl; have hfz46_0 := blk_frozen BK361.out 0; have hfz46_1 := blk_frozen BK361.out 1; have hcz47_0 : w41.cell? ⟨gb362, 0, none⟩ = some (.int .i64 a2_0) := (blk_cell BK362.out 0).trans rfl; have hcz47_1 : w41.cell? ⟨gb362, 1, none⟩ = some (.int .i64 a2_1) := (blk_cell BK362.out 1).trans rfl; have hfz47_0 := blk_frozen BK362.out 0; have hfz47_1 := blk_frozen BK362.out 1) | ((with_reducible refine gate_callee (f := 173) rfl ?_); refine goesL_ (some 10) rfl rfl Try.func173 (by kernel_rfl) rfl #[.agg #[.int .i64 a0_0, .int .i64 a0_1], .agg #[.int .i64 a1_0, .int .i64 a1_1], .agg #[.int .i64 a2_0, .int .i64 a2_1]] rfl zn ?_; (with_reducible refine (impl_turn.calls a0_0 a0_1 a1_0 a1_1 a2_0 a2_1 t363 _ A4.out).mono ?_); rintro e w48 ⟨rfl, hb⟩; refine ⟨_, rfl, ?_⟩; have n0_ := Aside0.mk (blk_below (g := gb360) (o := .cells #[.int .i64 a0_0, .int .i64 a0_1] 26 (0, 0)) zk hb); have n1_ := Aside0.mk (blk_below (g := gb361) (o := .cells #[.int .i64 a1_0, .int .i64 a1_1] 26 (0, 0)) zk hb); have n2_ := Aside0.mk (blk_below (g := gb362) (o := .cells #[.int .i64 a2_0, .int .i64 a2_1] 26 (0, 0)) zk hb); have n3_ := Aside0.mk (below_step zb hb); clear BK360; clear BK361; clear BK362; clear HB; have BK360 := n0_; have BK361 := n1_; have BK362 := n2_; have HB := n3_; clear n0_ n1_ n2_ n3_; (try clear hb); (try clear hb2); (try clear hk); (try clear hi)))
  go_ret
  exact ⟨by first | rfl | (simp [errW_none, errW_some] <;> rfl) | (simp [*, errW_none, errW_some] <;> rfl), zb⟩
def impl_sign.f (a0 : Int) : Option (Int) := some (mn 1 (mx (-1) a0))
set_option maxHeartbeats 8000000 in
set_option maxRecDepth 100000 in
theorem impl_sign.calls (a0 : Int) (r : Int) (w : World) (h : impl_sign.f a0 = some r) :
  Calls Try.prog 199 #[.int .i64 a0] w fun e w' => e = .returned (.int .i64 r) ∧ Below w.heap.size w w' := by
 have HB := Aside0.mk (Below.refl w.heap.size w)
 have H : (some (mn 1 (mx (-1) a0))) = some r := h
 clear h
 obtain ⟨ji2, hji2⟩ : ∃ j_ : Int, (mx (-1) a0) = j_ := ⟨_, rfl⟩
 replace H : (some (mn 1 (ji2))) = some r := by first | (rw [hji2] at H; exact H) | (simp only [hji2] at H ⊢; exact H)
 have hji2_ : (if (-1) < a0 then a0 else (-1)) = ji2 := hji2
 obtain ⟨ji3, hji3⟩ : ∃ j_ : Int, (mn 1 (ji2)) = j_ := ⟨_, rfl⟩
 replace H : (some ji3) = some r := by first | (rw [hji3] at H; exact H) | (simp only [hji3] at H ⊢; exact H)
 have hji3_ : (if (ji2) < 1 then (ji2) else 1) = ji3 := hji3
 obtain rfl := Option.some.inj H
 go_enter Try.func199, Try.ntmps199
 go_wp2
 go_ret
 exact ⟨by first | rfl | (simp [errW_none, errW_some] <;> rfl) | (simp only [← hji2, ← hji3]; first | rfl | (simp [errW_none, errW_some] <;> rfl)) | (simp [*, errW_none, errW_some] <;> rfl), zb⟩
end Go.Proofs.Ytphpdfcblchpnaa.Q
namespace Go.Proofs.Ytphpdfcblchpnaa.Q
open Go.RowKit Go.Proofs.YtphpdfcblchpnaaW.PrintWords Go.Proofs.YtphpdfcblchpnaaW.PrintLast Go.Proofs.YtphpdfcblchpnaaW.PrintMore
attribute [local go_sem] max2_int min2_int max_two min_two max_three min_three max_four min_four   -- for this text's walks alone
set_option linter.unusedVariables false
set_option linter.unusedSimpArgs false
def impl_meet.j0 : Nat → Bool → Int → Int → Int → Int → Int → Int → Int → Int → Option (Bool)
 | 0, _, _, _, _, _, _, _, _, _ => none
 | k + 1, x34, x367000, x367001, x368000, x368001, x369000, x369001, x370000, x370001 => if x34 = true then (some true) else ((impl_isOn.f x367000 x367001 x368000 x368001 x369000 x369001).bind fun t378 => (if t378 = true then (some true) else ((impl_isOn.f x367000 x367001 x368000 x368001 x370000 x370001).bind fun t379 => (if t379 = true then (some true) else ((impl_isOn.f x369000 x369001 x370000 x370001 x367000 x367001).bind fun t380 => (if t380 = true then (some true) else ((impl_isOn.f x369000 x369001 x370000 x370001 x368000 x368001).bind fun t381 => (some t381))))))))
def impl_meet.f (k : Nat) (a0_0 : Int) (a0_1 : Int) (a1_0 : Int) (a1_1 : Int) (a2_0 : Int) (a2_1 : Int) (a3_0 : Int) (a3_1 : Int) : Option (Bool) := (impl_turn.f a0_0 a0_1 a1_0 a1_1 a2_0 a2_1).bind fun t370 => ((impl_sign.f t370).bind fun t371 => ((impl_turn.f a0_0 a0_1 a1_0 a1_1 a3_0 a3_1).bind fun t372 => ((impl_sign.f t372).bind fun t373 => (if (wrap64 (t371 * t373)) < 0 then ((impl_turn.f a2_0 a2_1 a3_0 a3_1 a0_0 a0_1).bind fun t374 => ((impl_sign.f t374).bind fun t375 => ((impl_turn.f a2_0 a2_1 a3_0 a3_1 a1_0 a1_1).bind fun t376 => ((impl_sign.f t376).bind fun t377 => (impl_meet.j0 k (decide ((wrap64 (t375 * t377)) < 0)) a0_0 a0_1 a1_0 a1_1 a2_0 a2_1 a3_0 a3_1))))) else (impl_meet.j0 k false a0_0 a0_1 a1_0 a1_1 a2_0 a2_1 a3_0 a3_1)))))
def impl_meet.T1 : Bool × List (List Nat × List Nat) := (true, [([], []), ([], []), ([], []), ([0, 1, 2], [0, 1, 2]), ([3, 3], [3]), ([], []), ([], []), ([], []), ([5, 6, 7, 4], [5, 6, 7]), ([8, 8], [8]), ([4, 9], [4, 9]), ([10], [10]), ([11, 9], [11]), ([12], [12]), ([12], [12]), ([12], [12]), ([13, 14, 15, 12, 12], [12, 13, 14, 15]), ([16, 16, 12], [12, 16]), ([12], [12]), ([12], [12]), ([12], [12]), ([18, 19, 20, 17, 12], [12, 18, 19, 20]), ([21, 21, 12], [12, 21]), ([17, 22, 12], [12, 17, 22]), ([23, 12], [12, 23]), ([12, 24], [12, 24])])
def impl_meet.B1 : List Nat := [0, 0, 0, 7, 15, 0, 0, 0, 255, 511, 1023, 2047, 4095, 8191, 8191, 8191, 65535, 131071, 8191, 8191, 8191, 2097151, 4194303, 8388607, 16777215, 33554431]
theorem impl_meet.tab1 : rtab .any (opsOf Try.f175 1) = impl_meet.T1 := by kernel_rfl
theorem impl_meet.bits1 : waitsOk impl_meet.T1.2 impl_meet.B1 = true := by kernel_rfl
set_option maxHeartbeats 8000000 in
set_option maxRecDepth 100000 in
theorem impl_meet.calls (k : Nat) (a0_0 : Int) (a0_1 : Int) (a1_0 : Int) (a1_1 : Int) (a2_0 : Int) (a2_1 : Int) (a3_0 : Int) (a3_1 : Int) (r : Bool) (w : World) (h : impl_meet.f k a0_0 a0_1 a1_0 a1_1 a2_0 a2_1 a3_0 a3_1 = some r) :
  Calls Try.prog 175 #[.agg #[.int .i64 a0_0, .int .i64 a0_1], .agg #[.int .i64 a1_0, .int .i64 a1_1], .agg #[.int .i64 a2_0, .int .i64 a2_1], .agg #[.int .i64 a3_0, .int .i64 a3_1]] w fun e w' => e = .returned (.bool r) ∧ Below w.heap.size w w' := by
 have hu26 := Try.underlying26
 have HB := Aside0.mk (Below.refl w.heap.size w)
 have H : ((impl_turn.f a0_0 a0_1 a1_0 a1_1 a2_0 a2_1).bind fun t370 => ((impl_sign.f t370).bind fun t371 => ((impl_turn.f a0_0 a0_1 a1_0 a1_1 a3_0 a3_1).bind fun t372 => ((impl_sign.f t372).bind fun t373 => (if (wrap64 (t371 * t373)) < 0 then ((impl_turn.f a2_0 a2_1 a3_0 a3_1 a0_0 a0_1).bind fun t374 => ((impl_sign.f t374).bind fun t375 => ((impl_turn.f a2_0 a2_1 a3_0 a3_1 a1_0 a1_1).bind fun t376 => ((impl_sign.f t376).bind fun t377 => (impl_meet.j0 k (decide ((wrap64 (t375 * t377)) < 0)) a0_0 a0_1 a1_0 a1_1 a2_0 a2_1 a3_0 a3_1))))) else (impl_meet.j0 k false a0_0 a0_1 a1_0 a1_1 a2_0 a2_1 a3_0 a3_1)))))) = some r := h
 clear h
 have HC5 := Aside0.mk H
 clear H
 go_enter Try.func175, Try.ntmps175
 go_upto_region 1 with (first | ((with_reducible refine gate_dst (N := 4) rfl ?_); refine box_event ?hg (N := 4) ?hd (cs := #[.int .i64 a0_0, .int .i64 a0_1]) (t := 26) ?hr ?_; (case hd => rfl); (case hg => rfl); (case hr => first | (go_simp; done) | (go_simp; rfl)); intro gb366 hg w6 hbox hb; have n0_ := Aside0.mk (below_step zb hb); have n1_ := Aside0.mk (hbox); have n2_ := Aside0.mk ((by rw [hg]; exact (below_size zb) : w.heap.size ≤ gb366)); have n3_ := Aside0.mk ((by rw [hg]; exact (below_size zb) : w.heap.size ≤ gb366)); clear HB; have HB := n0_; have BK366 := n1_; have GW366 := n2_; have GE366 := n3_; clear n0_ n1_ n2_ n3_; clear hb hbox hg) | ((with_reducible refine gate_dst (N := 5) rfl ?_); refine box_event ?hg (N := 5) ?hd (cs := #[.int .i64 a1_0, .int .i64 a1_1]) (t := 26) ?hr ?_; (case hd => rfl); (case hg => rfl); (case hr => first | (go_simp; done) | (go_simp; rfl)); intro gb367 hg w7 hbox hb; have n0_ := Aside0.mk (blk_below (g := gb366) (o := .cells #[.int .i64 a0_0, .int .i64 a0_1] 26 (0, 0)) zk hb); have n1_ := Aside0.mk (below_step zb hb); have n2_ := Aside0.mk (hbox); have n3_ := Aside0.mk ((by rw [hg]; exact (below_size zb) : w.heap.size ≤ gb367)); have n4_ := Aside0.mk ((by rw [hg]; exact (below_size zb) : w.heap.size ≤ gb367)); have n5_ := Aside0.mk ((by rw [hg]; exact Nat.ne_of_lt (blk_lt (g := gb366) (o := .cells #[.int .i64 a0_0, .int .i64 a0_1] 26 (0, 0)) zk) : gb366 ≠ gb367)); have n6_ := Aside0.mk ((by rw [hg]; exact Nat.ne_of_gt (blk_lt (g := gb366) (o := .cells #[.int .i64 a0_0, .int .i64 a0_1] 26 (0, 0)) zk) : gb367 ≠ gb366)); clear BK366; clear HB; have BK366 := n0_; have HB := n1_; have BK367 := n2_; have GW367 := n3_; have GE367 := n4_; have NB366_367 := n5_; have NB367_366 := n6_; clear n0_ n1_ n2_ n3_ n4_ n5_ n6_; clear hb hbox hg) | ((with_reducible refine gate_dst (N := 6) rfl ?_); refine box_event ?hg (N := 6) ?hd (cs := #[.int .i64 a2_0, .int .i64 a2_1]) (t := 26) ?hr ?_; (case hd => rfl); (case hg => rfl); (case hr => first | (go_simp; done) | (go_simp; rfl)); intro gb368 hg w8 hbox hb; have n0_ := Aside0.mk (blk_below (g := gb366) (o := .cells #[.int .i64 a0_0, .int .i64 a0_1] 26 (0, 0)) zk hb); have n1_ := Aside0.mk (blk_below (g := gb367) (o := .cells #[.int .i64 a1_0, .int .i64 a1_1] 26 (0, 0)) zk hb); have n2_ := Aside0.mk (below_step zb hb); have n3_ := Aside0.mk (hbox); have n4_ := Aside0.mk ((by rw [hg]; exact (below_size zb) : w.heap.size ≤ gb368)); have n5_ := Aside0.mk ((by rw [hg]; exact (below_size zb) : w.heap.size ≤ gb368)); have n6_ := Aside0.mk ((by rw [hg]; exact Nat.ne_of_lt (blk_lt (g := gb366) (o := .cells #[.int .i64 a0_0, .int .i64 a0_1] 26 (0, 0)) zk) : gb366 ≠ gb368)); have n7_ := Aside0.mk ((by rw [hg]; exact Nat.ne_of_gt (blk_lt (g := gb366) (o := .cells #[.int .i64 a0_0, .int .i64 a0_1] 26 (0, 0)) zk) : gb368 ≠ gb366)); have n8_ := Aside0.mk ((by rw [hg]; exact Nat.ne_of_lt (blk_lt (g := gb367) (o := .cells #[.int .i64 a1_0, .int .i64 a1_1] 26 (0, 0)) zk) : gb367 ≠ gb368)); have n9_ := Aside0.mk ((by rw [hg]; exact Nat.ne_of_gt (blk_lt (g := gb367) (o := .cells #[.int .i64 a1_0, .int .i64 a1_1] 26 (0, 0)) zk) : gb368 ≠ gb367)); clear BK366; clear BK367; clear HB; have BK366 := n0_; have BK367 := n1_; have HB := n2_; have BK368 := n3_; have GW368 := n4_; have GE368 := n5_; have NB366_368 := n6_; have NB368_366 := n7_; have NB367_368 := n8_; have NB368_367 := n9_; clear n0_ n1_ n2_ n3_ n4_ n5_ n6_ n7_ n8_ n9_; clear hb hbox hg) | ((with_reducible refine gate_dst (N := 7) rfl ?_); refine box_event ?hg (N := 7) ?hd (cs := #[.int .i64 a3_0, .int .i64 a3_1]) (t := 26) ?hr ?_; (case hd => rfl); (case hg => rfl); (case hr => first | (go_simp; done) | (go_simp; rfl)); intro gb369 hg w9 hbox hb; have n0_ := Aside0.mk (blk_below (g := gb366) (o := .cells #[.int .i64 a0_0, .int .i64 a0_1] 26 (0, 0)) zk hb); have n1_ := Aside0.mk (blk_below (g := gb367) (o := .cells #[.int .i64 a1_0, .int .i64 a1_1] 26 (0, 0)) zk hb); have n2_ := Aside0.mk (blk_below (g := gb368) (o := .cells #[.int .i64 a2_0, .int .i64 a2_1] 26 (0, 0)) zk hb); have n3_ := Aside0.mk (below_step zb hb); have n4_ := Aside0.mk (hbox); have n5_ := Aside0.mk ((by rw [hg]; exact (below_size zb) : w.heap.size ≤ gb369)); have n6_ := Aside0.mk ((by rw [hg]; exact (below_size zb) : w.heap.size ≤ gb369)); have n7_ := Aside0.mk ((by rw [hg]; exact Nat.ne_of_lt (blk_lt (g := gb366) (o := .cells #[.int .i64 a0_0, .int .i64 a0_1] 26 (0, 0)) zk) : gb366 ≠ gb369)); have n8_ := Aside0.mk ((by rw [hg]; exact Nat.ne_of_gt (blk_lt (g := gb366) (o := .cells #[.int .i64 a0_0, .int .i64 a0_1] 26 (0, 0)) zk) : gb369 ≠ gb366)); have n9_ := Aside0.mk ((by rw [hg]; exact Nat.ne_of_lt (blk_lt (g := gb367) (o := .cells #[.int .i64 a1_0, .int .i64 a1_1] 26 (0, 0)) zk) : gb367 ≠ gb369)); have n10_ := Aside0.mk ((by rw [hg]; exact Nat.ne_of_gt (blk_lt (g := gb367) (o := .cells #[.int .i64 a1_0, .int .i64 a1_1] 26 (0, 0)) zk) : gb369 ≠ gb367)); have n11_ := Aside0.mk ((by rw [hg]; exact Nat.ne_of_lt (blk_lt (g := gb368) (o := .cells #[.int .i64 a2_0, .int .i64 a2_1] 26 (0, 0)) zk) : gb368 ≠ gb369)); have n12_ := Aside0.mk ((by rw [hg]; exact Nat.ne_of_gt (blk_lt (g := gb368) (o := .cells #[.int .i64 a2_0, .int .i64 a2_1] 26 (0, 0)) zk) : gb369 ≠ gb368)); clear BK366; clear BK367; clear BK368; clear HB; have BK366 := n0_; have BK367 := n1_; have BK368 := n2_; have HB := n3_; have BK369 := n4_; have GW369 := n5_; have GE369 := n6_; have NB366_369 := n7_; have NB369_366 := n8_; have NB367_369 := n9_; have NB369_367 := n10_; have NB368_369 := n11_; have NB369_368 := n12_; clear n0_ n1_ n2_ n3_ n4_ n5_ n6_ n7_ n8_ n9_ n10_ n11_ n12_; clear hb hbox hg))
 (try simp only [Act.put, List.setIfInBounds_toArray, List.set_cons_zero, List.set_cons_succ])
 go_cut [34] (fun v34 wc => ∃ (kq : Nat) (x34_4 : Bool), v34 = .bool x34_4 ∧ Aside0 (impl_meet.j0 kq x34_4 a0_0 a0_1 a1_0 a1_1 a2_0 a2_1 a3_0 a3_1 = some r) ∧ Aside0 (kq ≤ k) ∧ Aside0 (wc.heap[gb366]? = some (.cells #[.int .i64 a0_0, .int .i64 a0_1] 26 (0, 0))) ∧ Aside0 (wc.heap[gb367]? = some (.cells #[.int .i64 a1_0, .int .i64 a1_1] 26 (0, 0))) ∧ Aside0 (wc.heap[gb368]? = some (.cells #[.int .i64 a2_0, .int .i64 a2_1] 26 (0, 0))) ∧ Aside0 (wc.heap[gb369]? = some (.cells #[.int .i64 a3_0, .int .i64 a3_1] 26 (0, 0))) ∧ Aside0 (Below w.heap.size w wc))
 case first =>
  have H := HC5.out
  clear HC5
  replace H := Option.bind_eq_some_iff.mp H
  obtain ⟨t370, A100, H⟩ := H
  replace H : ((impl_sign.f t370).bind fun t371 => ((impl_turn.f a0_0 a0_1 a1_0 a1_1 a3_0 a3_1).bind fun t372 => ((impl_sign.f t372).bind fun t373 => (if (wrap64 (t371 * t373)) < 0 then ((impl_turn.f a2_0 a2_1 a3_0 a3_1 a0_0 a0_1).bind fun t374 => ((impl_sign.f t374).bind fun t375 => ((impl_turn.f a2_0 a2_1 a3_0 a3_1 a1_0 a1_1).bind fun t376 => ((impl_sign.f t376).bind fun t377 => (impl_meet.j0 k (decide ((wrap64 (t375 * t377)) < 0)) a0_0 a0_1 a1_0 a1_1 a2_0 a2_1 a3_0 a3_1))))) else (impl_meet.j0 k false a0_0 a0_1 a1_0 a1_1 a2_0 a2_1 a3_0 a3_1))))) = some r := H
  have A10 := Aside0.mk A100
  clear A100
  replace H := Option.bind_eq_some_iff.mp H
  obtain ⟨t371, A110, H⟩ := H
  replace H : ((impl_turn.f a0_0 a0_1 a1_0 a1_1 a3_0 a3_1).bind fun t372 => ((impl_sign.f t372).bind fun t373 => (if (wrap64 (t371 * t373)) < 0 then ((impl_turn.f a2_0 a2_1 a3_0 a3_1 a0_0 a0_1).bind fun t374 => ((impl_sign.f t374).bind fun t375 => ((impl_turn.f a2_0 a2_1 a3_0 a3_1 a1_0 a1_1).bind fun t376 => ((impl_sign.f t376).bind fun t377 => (impl_meet.j0 k (decide ((wrap64 (t375 * t377)) < 0)) a0_0 a0_1 a1_0 a1_1 a2_0 a2_1 a3_0 a3_1))))) else (impl_meet.j0 k false a0_0 a0_1 a1_0 a1_1 a2_0 a2_1 a3_0 a3_1)))) = some r := H
  have A11 := Aside0.mk A110
  clear A110
  replace H := Option.bind_eq_some_iff.mp H
  obtain ⟨t372, A120, H⟩ := H
  replace H : ((impl_sign.f t372).bind fun t373 => (if (wrap64 (t371 * t373)) < 0 then ((impl_turn.f a2_0 a2_1 a3_0 a3_1 a0_0 a0_1).bind fun t374 => ((impl_sign.f t374).bind fun t375 => ((impl_turn.f a2_0 a2_1 a3_0 a3_1 a1_0 a1_1).bind fun t376 => ((impl_sign.f t376).bind fun t377 => (impl_meet.j0 k (decide ((wrap64 (t375 * t377)) < 0)) a0_0 a0_1 a1_0 a1_1 a2_0 a2_1 a3_0 a3_1))))) else (impl_meet.j0 k false a0_0 a0_1 a1_0 a1_1 a2_0 a2_1 a3_0 a3_1))) = some r := H
  have A12 := Aside0.mk A120
  clear A120
  replace H := Option.bind_eq_some_iff.mp H
  obtain ⟨t373, A130, H⟩ := H
  replace H : (if (wrap64 (t371 * t373)) < 0 then ((impl_turn.f a2_0 a2_1 a3_0 a3_1 a0_0 a0_1).bind fun t374 => ((impl_sign.f t374).bind fun t375 => ((impl_turn.f a2_0 a2_1 a3_0 a3_1 a1_0 a1_1).bind fun t376 => ((impl_sign.f t376).bind fun t377 => (impl_meet.j0 k (decide ((wrap64 (t375 * t377)) < 0)) a0_0 a0_1 a1_0 a1_1 a2_0 a2_1 a3_0 a3_1))))) else (impl_meet.j0 k false a0_0 a0_1 a1_0 a1_1 a2_0 a2_1 a3_0 a3_1)) = some r := H
  have A13 := Aside0.mk A130
  clear A130
  by_cases c14 : (wrap64 (t371 * t373)) < 0
  ·rw [if_pos c14] at H
   have c14b0 : decide ((wrap64 (t371 * t373)) < 0) = true := decide_eq_true c14
   clear c14
   (first | rw [c14b0] | (simp only [i64_w, i32_w]; rw [c14b0]) | skip)
   replace H := Option.bind_eq_some_iff.mp H
   obtain ⟨t374, A150, H⟩ := H
   replace H : ((impl_sign.f t374).bind fun t375 => ((impl_turn.f a2_0 a2_1 a3_0 a3_1 a1_0 a1_1).bind fun t376 => ((impl_sign.f t376).bind fun t377 => (impl_meet.j0 k (decide ((wrap64 (t375 * t377)) < 0)) a0_0 a0_1 a1_0 a1_1 a2_0 a2_1 a3_0 a3_1)))) = some r := H
   have A15 := Aside0.mk A150
   clear A150
   replace H := Option.bind_eq_some_iff.mp H
   obtain ⟨t375, A160, H⟩ := H
   replace H : ((impl_turn.f a2_0 a2_1 a3_0 a3_1 a1_0 a1_1).bind fun t376 => ((impl_sign.f t376).bind fun t377 => (impl_meet.j0 k (decide ((wrap64 (t375 * t377)) < 0)) a0_0 a0_1 a1_0 a1_1 a2_0 a2_1 a3_0 a3_1))) = some r := H
   have A16 := Aside0.mk A160
   clear A160
   replace H := Option.bind_eq_some_iff.mp H
   obtain ⟨t376, A170, H⟩ := H
   replace H : ((impl_sign.f t376).bind fun t377 => (impl_meet.j0 k (decide ((wrap64 (t375 * t377)) < 0)) a0_0 a0_1 a1_0 a1_1 a2_0 a2_1 a3_0 a3_1)) = some r := H
   have A17 := Aside0.mk A170
   clear A170
   replace H := Option.bind_eq_some_iff.mp H
   obtain ⟨t377, A180, H⟩ := H
   replace H : (impl_meet.j0 k (decide ((wrap64 (t375 * t377)) < 0)) a0_0 a0_1 a1_0 a1_1 a2_0 a2_1 a3_0 a3_1) = some r := H
   have A18 := Aside0.mk A180
   clear A180
   have H' := Aside0.mk H
   clear H
   try go_wp2
   have n0_ := Aside0.mk (blk_drew BK366.out)
   have n1_ := Aside0.mk (blk_drew BK367.out)
   have n2_ := Aside0.mk (blk_drew BK368.out)
   have n3_ := Aside0.mk (blk_drew BK369.out)
   have n4_ := Aside0.mk (below_drew1 HB.out)
   clear BK366
   clear BK367
   clear BK368
   clear BK369
   clear HB
   have BK366 := n0_
   have BK367 := n1_
   have BK368 := n2_
   have BK369 := n3_
   have HB := n4_
   clear n0_ n1_ n2_ n3_ n4_
   refine start_ (n := 26) (S := fun w' => w'.cell? ⟨gb366, 0, none⟩ = some (.int .i64 a0_0) ∧ w'.cell? ⟨gb366, 1, none⟩ = some (.int .i64 a0_1) ∧ w'.cell? ⟨gb367, 0, none⟩ = some (.int .i64 a1_0) ∧ w'.cell? ⟨gb367, 1, none⟩ = some (.int .i64 a1_1) ∧ w'.cell? ⟨gb368, 0, none⟩ = some (.int .i64 a2_0) ∧ w'.cell? ⟨gb368, 1, none⟩ = some (.int .i64 a2_1) ∧ w'.cell? ⟨gb369, 0, none⟩ = some (.int .i64 a3_0) ∧ w'.cell? ⟨gb369, 1, none⟩ = some (.int .i64 a3_1)) (ds := []) (zl 26 0) (by kernel_rfl) rfl rfl ⟨(blk_cell BK366.out 0).trans rfl, (blk_cell BK366.out 1).trans rfl, (blk_cell BK367.out 0).trans rfl, (blk_cell BK367.out 1).trans rfl, (blk_cell BK368.out 0).trans rfl, (blk_cell BK368.out 1).trans rfl, (blk_cell BK369.out 0).trans rfl, (blk_cell BK369.out 1).trans rfl⟩ (fun hHeld => ?_); refine with_tabW impl_meet.tab1 impl_meet.bits1 (fun HT_ HW_ => ?_)
   generalize w9.drew = w19 at BK366 BK367 BK368 BK369 HB hHeld ⊢
   refine take_ (i := 0) (N := some 9) (v := ?_) (a' := ?_) (zl 26 1) rfl rfl (take_ofW HT_.out HW_.out (by kernel_rfl)) (fun _ _ _ h => h) (Or.inl ⟨by rfl, ?_⟩) hHeld ?_ ?_
   rotate_left
   ·rintro w' ⟨s0, s1, s2, s3, s4, s5, s6, s7⟩
    go_simp
    with_reducible rfl
   rotate_left
   ·exact zs
   refine take_ (i := 1) (N := some 10) (v := ?_) (a' := ?_) (zl 26 3) rfl rfl (take_ofW HT_.out HW_.out (by kernel_rfl)) (fun _ _ _ h => h) (Or.inl ⟨by rfl, ?_⟩) hHeld ?_ ?_
   rotate_left
   ·rintro w' ⟨s0, s1, s2, s3, s4, s5, s6, s7⟩
    go_simp
    with_reducible rfl
   rotate_left
   ·exact zs
   refine take_ (i := 2) (N := some 11) (v := ?_) (a' := ?_) (zl 26 7) rfl rfl (take_ofW HT_.out HW_.out (by kernel_rfl)) (fun _ _ _ h => h) (Or.inl ⟨by rfl, ?_⟩) hHeld ?_ ?_
   rotate_left
   ·rintro w' ⟨s0, s1, s2, s3, s4, s5, s6, s7⟩
    go_simp
    with_reducible rfl
   rotate_left
   ·exact zs
   refine take_ (i := 5) (N := some 14) (v := ?_) (a' := ?_) (zl 26 39) rfl rfl (take_ofW HT_.out HW_.out (by kernel_rfl)) (fun _ _ _ h => h) (Or.inl ⟨by rfl, ?_⟩) hHeld ?_ ?_
   rotate_left
   ·rintro w' ⟨s0, s1, s2, s3, s4, s5, s6, s7⟩
    go_simp
    with_reducible rfl
   rotate_left
   ·exact zs
   refine take_ (i := 6) (N := some 15) (v := ?_) (a' := ?_) (zl 26 103) rfl rfl (take_ofW HT_.out HW_.out (by kernel_rfl)) (fun _ _ _ h => h) (Or.inl ⟨by rfl, ?_⟩) hHeld ?_ ?_
   rotate_left
   ·rintro w' ⟨s0, s1, s2, s3, s4, s5, s6, s7⟩
    go_simp
    with_reducible rfl
   rotate_left
   ·exact zs
   refine take_ (i := 7) (N := some 16) (v := ?_) (a' := ?_) (zl 26 231) rfl rfl (take_ofW HT_.out HW_.out (by kernel_rfl)) (fun _ _ _ h => h) (Or.inl ⟨by rfl, ?_⟩) hHeld ?_ ?_
   rotate_left
   ·rintro w' ⟨s0, s1, s2, s3, s4, s5, s6, s7⟩
    go_simp
    with_reducible rfl
   rotate_left
   ·exact zs
   refine one_ (i := 3) (N := some 12) (zl 26 239) rfl rfl (one_of HT_.out (by kernel_rfl)) (by decide) (fun K hK => ?_)
   refine goes_ Try.func173 (by kernel_rfl) rfl #[.agg #[.int .i64 a0_0, .int .i64 a0_1], .agg #[.int .i64 a1_0, .int .i64 a1_1], .agg #[.int .i64 a2_0, .int .i64 a2_1]] (by rfl) rfl rfl zn ?_
   with_reducible refine (impl_turn.calls a0_0 a0_1 a1_0 a1_1 a2_0 a2_1 t370 _ A10.out).mono ?_
   rintro e w20 ⟨rfl, hb⟩
   refine ⟨_, rfl, ?_⟩
   have n0_ := Aside0.mk (blk_below (g := gb366) (o := .cells #[.int .i64 a0_0, .int .i64 a0_1] 26 (0, 0)) zk hb)
   have n1_ := Aside0.mk (blk_below (g := gb367) (o := .cells #[.int .i64 a1_0, .int .i64 a1_1] 26 (0, 0)) zk hb)
   have n2_ := Aside0.mk (blk_below (g := gb368) (o := .cells #[.int .i64 a2_0, .int .i64 a2_1] 26 (0, 0)) zk hb)
   have n3_ := Aside0.mk (blk_below (g := gb369) (o := .cells #[.int .i64 a3_0, .int .i64 a3_1] 26 (0, 0)) zk hb)
   have n4_ := Aside0.mk (below_step zb hb)
   clear BK366
   clear BK367
   clear BK368
   clear BK369
   clear HB
   have BK366 := n0_
   have BK367 := n1_
   have BK368 := n2_
   have BK369 := n3_
   have HB := n4_
   clear n0_ n1_ n2_ n3_ n4_
   (try clear hb)
   (try clear hb2)
   (try clear hk)
   (try clear hi)
   refine hK.out _ _ ⟨(blk_cell BK366.out 0).trans rfl, (blk_cell BK366.out 1).trans rfl, (blk_cell BK367.out 0).trans rfl, (blk_cell BK367.out 1).trans rfl, (blk_cell BK368.out 0).trans rfl, (blk_cell BK368.out 1).trans rfl, (blk_cell BK369.out 0).trans rfl, (blk_cell BK369.out 1).trans rfl⟩ (fun hHeld => ?_)
   clear hK K
   refine norm_ (a' := ?_) ?_ ?_
   rotate_left
   ·show Act.put _ (some 12) _ = _
    exact zs
   refine one_ (i := 4) (N := some 13) (zl 26 255) rfl rfl (one_of HT_.out (by kernel_rfl)) (by decide) (fun K hK => ?_)
   refine goes_ Try.func199 (by kernel_rfl) rfl #[.int .i64 t370] (by rfl) rfl rfl zn ?_
   with_reducible refine (impl_sign.calls t370 t371 _ A11.out).mono ?_
   rintro e w21 ⟨rfl, hb⟩
   refine ⟨_, rfl, ?_⟩
   have n0_ := Aside0.mk (blk_below (g := gb366) (o := .cells #[.int .i64 a0_0, .int .i64 a0_1] 26 (0, 0)) zk hb)
   have n1_ := Aside0.mk (blk_below (g := gb367) (o := .cells #[.int .i64 a1_0, .int .i64 a1_1] 26 (0, 0)) zk hb)
   have n2_ := Aside0.mk (blk_below (g := gb368) (o := .cells #[.int .i64 a2_0, .int .i64 a2_1] 26 (0, 0)) zk hb)
   have n3_ := Aside0.mk (blk_below (g := gb369) (o := .cells #[.int .i64 a3_0, .int .i64 a3_1] 26 (0, 0)) zk hb)
   have n4_ := Aside0.mk (below_step zb hb)
   clear BK366
   clear BK367
   clear BK368
   clear BK369
   clear HB
   have BK366 := n0_
   have BK367 := n1_
   have BK368 := n2_
   have BK369 := n3_
   have HB := n4_
   clear n0_ n1_ n2_ n3_ n4_
   (try clear hb)
   (try clear hb2)
   (try clear hk)
   (try clear hi)
   refine hK.out _ _ ⟨(blk_cell BK366.out 0).trans rfl, (blk_cell BK366.out 1).trans rfl, (blk_cell BK367.out 0).trans rfl, (blk_cell BK367.out 1).trans rfl, (blk_cell BK368.out 0).trans rfl, (blk_cell BK368.out 1).trans rfl, (blk_cell BK369.out 0).trans rfl, (blk_cell BK369.out 1).trans rfl⟩ (fun hHeld => ?_)
   clear hK K
   refine norm_ (a' := ?_) ?_ ?_
   rotate_left
   ·show Act.put _ (some 13) _ = _
    exact zs
   refine one_ (i := 8) (N := some 17) (zl 26 511) rfl rfl (one_of HT_.out (by kernel_rfl)) (by decide) (fun K hK => ?_)
   refine goes_ Try.func173 (by kernel_rfl) rfl #[.agg #[.int .i64 a0_0, .int .i64 a0_1], .agg #[.int .i64 a1_0, .int .i64 a1_1], .agg #[.int .i64 a3_0, .int .i64 a3_1]] (by rfl) rfl rfl zn ?_
   with_reducible refine (impl_turn.calls a0_0 a0_1 a1_0 a1_1 a3_0 a3_1 t372 _ A12.out).mono ?_
   rintro e w22 ⟨rfl, hb⟩
   refine ⟨_, rfl, ?_⟩
   have n0_ := Aside0.mk (blk_below (g := gb366) (o := .cells #[.int .i64 a0_0, .int .i64 a0_1] 26 (0, 0)) zk hb)
   have n1_ := Aside0.mk (blk_below (g := gb367) (o := .cells #[.int .i64 a1_0, .int .i64 a1_1] 26 (0, 0)) zk hb)
   have n2_ := Aside0.mk (blk_below (g := gb368) (o := .cells #[.int .i64 a2_0, .int .i64 a2_1] 26 (0, 0)) zk hb)
   have n3_ := Aside0.mk (blk_below (g := gb369) (o := .cells #[.int .i64 a3_0, .int .i64 a3_1] 26 (0, 0)) zk hb)
   have n4_ := Aside0.mk (below_step zb hb)
   clear BK366
   clear BK367
   clear BK368
   clear BK369
   clear HB
   have BK366 := n0_
   have BK367 := n1_
   have BK368 := n2_
   have BK369 := n3_
   have HB := n4_
   clear n0_ n1_ n2_ n3_ n4_
   (try clear hb)
   (try clear hb2)
   (try clear hk)
   (try clear hi)
   refine hK.out _ _ ⟨(blk_cell BK366.out 0).trans rfl, (blk_cell BK366.out 1).trans rfl, (blk_cell BK367.out 0).trans rfl, (blk_cell BK367.out 1).trans rfl, (blk_cell BK368.out 0).trans rfl, (blk_cell BK368.out 1).trans rfl, (blk_cell BK369.out 0).trans rfl, (blk_cell BK369.out 1).trans rfl⟩ (fun hHeld => ?_)
   clear hK K
   refine norm_ (a' := ?_) ?_ ?_
   rotate_left
   ·show Act.put _ (some 17) _ = _
    exact zs
   refine one_ (i := 9) (N := some 18) (zl 26 1023) rfl rfl (one_of HT_.out (by kernel_rfl)) (by decide) (fun K hK => ?_)
   refine goes_ Try.func199 (by kernel_rfl) rfl #[.int .i64 t372] (by rfl) rfl rfl zn ?_
   with_reducible refine (impl_sign.calls t372 t373 _ A13.out).mono ?_
   rintro e w23 ⟨rfl, hb⟩
   refine ⟨_, rfl, ?_⟩
   have n0_ := Aside0.mk (blk_below (g := gb366) (o := .cells #[.int .i64 a0_0, .int .i64 a0_1] 26 (0, 0)) zk hb)
   have n1_ := Aside0.mk (blk_below (g := gb367) (o := .cells #[.int .i64 a1_0, .int .i64 a1_1] 26 (0, 0)) zk hb)
   have n2_ := Aside0.mk (blk_below (g := gb368) (o := .cells #[.int .i64 a2_0, .int .i64 a2_1] 26 (0, 0)) zk hb)
   have n3_ := Aside0.mk (blk_below (g := gb369) (o := .cells #[.int .i64 a3_0, .int .i64 a3_1] 26 (0, 0)) zk hb)
   have n4_ := Aside0.mk (below_step zb hb)
   clear BK366
   clear BK367
   clear BK368
   clear BK369
   clear HB
   have BK366 := n0_
   have BK367 := n1_
   have BK368 := n2_
   have BK369 := n3_
   have HB := n4_
   clear n0_ n1_ n2_ n3_ n4_
   (try clear hb)
   (try clear hb2)
   (try clear hk)
   (try clear hi)
   refine hK.out _ _ ⟨(blk_cell BK366.out 0).trans rfl, (blk_cell BK366.out 1).trans rfl, (blk_cell BK367.out 0).trans rfl, (blk_cell BK367.out 1).trans rfl, (blk_cell BK368.out 0).trans rfl, (blk_cell BK368.out 1).trans rfl, (blk_cell BK369.out 0).trans rfl, (blk_cell BK369.out 1).trans rfl⟩ (fun hHeld => ?_)
   clear hK K
   refine norm_ (a' := ?_) ?_ ?_
   rotate_left
   ·show Act.put _ (some 18) _ = _
    exact zs
   refine zp 10 19 26 2047 HT_ ?_
   refine zp 11 20 26 4095 HT_ ?_
   refine zp 12 21 26 8191 HT_ ?_
   refine take_ (i := 13) (N := some 22) (v := ?_) (a' := ?_) (zl 26 16383) rfl rfl (take_ofW HT_.out HW_.out (by kernel_rfl)) (fun _ _ _ h => h) (Or.inl ⟨by rfl, ?_⟩) hHeld ?_ ?_
   rotate_left
   ·rintro w' ⟨s0, s1, s2, s3, s4, s5, s6, s7⟩
    go_simp
    with_reducible rfl
   rotate_left
   ·exact zs
   refine take_ (i := 14) (N := some 23) (v := ?_) (a' := ?_) (zl 26 32767) rfl rfl (take_ofW HT_.out HW_.out (by kernel_rfl)) (fun _ _ _ h => h) (Or.inl ⟨by rfl, ?_⟩) hHeld ?_ ?_
   rotate_left
   ·rintro w' ⟨s0, s1, s2, s3, s4, s5, s6, s7⟩
    go_simp
    with_reducible rfl
   rotate_left
   ·exact zs
   refine take_ (i := 15) (N := some 24) (v := ?_) (a' := ?_) (zl 26 65535) rfl rfl (take_ofW HT_.out HW_.out (by kernel_rfl)) (fun _ _ _ h => h) (Or.inl ⟨by rfl, ?_⟩) hHeld ?_ ?_
   rotate_left
   ·rintro w' ⟨s0, s1, s2, s3, s4, s5, s6, s7⟩
    go_simp
    with_reducible rfl
   rotate_left
   ·exact zs
   refine take_ (i := 18) (N := some 27) (v := ?_) (a' := ?_) (zl 26 327679) rfl rfl (take_ofW HT_.out HW_.out (by kernel_rfl)) (fun _ _ _ h => h) (Or.inl ⟨by rfl, ?_⟩) hHeld ?_ ?_
   rotate_left
   ·rintro w' ⟨s0, s1, s2, s3, s4, s5, s6, s7⟩
    go_simp
    with_reducible rfl
   rotate_left
   ·exact zs
   refine take_ (i := 19) (N := some 28) (v := ?_) (a' := ?_) (zl 26 851967) rfl rfl (take_ofW HT_.out HW_.out (by kernel_rfl)) (fun _ _ _ h => h) (Or.inl ⟨by rfl, ?_⟩) hHeld ?_ ?_
   rotate_left
   ·rintro w' ⟨s0, s1, s2, s3, s4, s5, s6, s7⟩
    go_simp
    with_reducible rfl
   rotate_left
   ·exact zs
   refine take_ (i := 20) (N := some 29) (v := ?_) (a' := ?_) (zl 26 1900543) rfl rfl (take_ofW HT_.out HW_.out (by kernel_rfl)) (fun _ _ _ h => h) (Or.inl ⟨by rfl, ?_⟩) hHeld ?_ ?_
   rotate_left
   ·rintro w' ⟨s0, s1, s2, s3, s4, s5, s6, s7⟩
    go_simp
    with_reducible rfl
   rotate_left
   ·exact zs
   refine one_ (i := 16) (N := some 25) (zl 26 1966079) rfl rfl (one_of HT_.out (by kernel_rfl)) (by decide) (fun K hK => ?_)
   refine goes_ Try.func173 (by kernel_rfl) rfl #[.agg #[.int .i64 a2_0, .int .i64 a2_1], .agg #[.int .i64 a3_0, .int .i64 a3_1], .agg #[.int .i64 a0_0, .int .i64 a0_1]] (by rfl) rfl rfl zn ?_
   with_reducible refine (impl_turn.calls a2_0 a2_1 a3_0 a3_1 a0_0 a0_1 t374 _ A15.out).mono ?_
   rintro e w24 ⟨rfl, hb⟩
   refine ⟨_, rfl, ?_⟩
   have n0_ := Aside0.mk (blk_below (g := gb366) (o := .cells #[.int .i64 a0_0, .int .i64 a0_1] 26 (0, 0)) zk hb)
   have n1_ := Aside0.mk (blk_below (g := gb367) (o := .cells #[.int .i64 a1_0, .int .i64 a1_1] 26 (0, 0)) zk hb)
   have n2_ := Aside0.mk (blk_below (g := gb368) (o := .cells #[.int .i64 a2_0, .int .i64 a2_1] 26 (0, 0)) zk hb)
   have n3_ := Aside0.mk (blk_below (g := gb369) (o := .cells #[.int .i64 a3_0, .int .i64 a3_1] 26 (0, 0)) zk hb)
   have n4_ := Aside0.mk (below_step zb hb)
   clear BK366
   clear BK367
   clear BK368
   clear BK369
   clear HB
   have BK366 := n0_
   have BK367 := n1_
   have BK368 := n2_
   have BK369 := n3_
   have HB := n4_
   clear n0_ n1_ n2_ n3_ n4_
   (try clear hb)
   (try clear hb2)
   (try clear hk)
   (try clear hi)
   refine hK.out _ _ ⟨(blk_cell BK366.out 0).trans rfl, (blk_cell BK366.out 1).trans rfl, (blk_cell BK367.out 0).trans rfl, (blk_cell BK367.out 1).trans rfl, (blk_cell BK368.out 0).trans rfl, (blk_cell BK368.out 1).trans rfl, (blk_cell BK369.out 0).trans rfl, (blk_cell BK369.out 1).trans rfl⟩ (fun hHeld => ?_)
   clear hK K
   refine norm_ (a' := ?_) ?_ ?_
   rotate_left
   ·show Act.put _ (some 25) _ = _
    exact zs
   refine one_ (i := 17) (N := some 26) (zl 26 2097151) rfl rfl (one_of HT_.out (by kernel_rfl)) (by decide) (fun K hK => ?_)
   refine goes_ Try.func199 (by kernel_rfl) rfl #[.int .i64 t374] (by rfl) rfl rfl zn ?_
   with_reducible refine (impl_sign.calls t374 t375 _ A16.out).mono ?_
   rintro e w25 ⟨rfl, hb⟩
   refine ⟨_, rfl, ?_⟩
   have n0_ := Aside0.mk (blk_below (g := gb366) (o := .cells #[.int .i64 a0_0, .int .i64 a0_1] 26 (0, 0)) zk hb)
   have n1_ := Aside0.mk (blk_below (g := gb367) (o := .cells #[.int .i64 a1_0, .int .i64 a1_1] 26 (0, 0)) zk hb)
   have n2_ := Aside0.mk (blk_below (g := gb368) (o := .cells #[.int .i64 a2_0, .int .i64 a2_1] 26 (0, 0)) zk hb)
   have n3_ := Aside0.mk (blk_below (g := gb369) (o := .cells #[.int .i64 a3_0, .int .i64 a3_1] 26 (0, 0)) zk hb)
   have n4_ := Aside0.mk (below_step zb hb)
   clear BK366
   clear BK367
   clear BK368
   clear BK369
   clear HB
   have BK366 := n0_
   have BK367 := n1_
   have BK368 := n2_
   have BK369 := n3_
   have HB := n4_
   clear n0_ n1_ n2_ n3_ n4_
   (try clear hb)
   (try clear hb2)
   (try clear hk)
   (try clear hi)
   refine hK.out _ _ ⟨(blk_cell BK366.out 0).trans rfl, (blk_cell BK366.out 1).trans rfl, (blk_cell BK367.out 0).trans rfl, (blk_cell BK367.out 1).trans rfl, (blk_cell BK368.out 0).trans rfl, (blk_cell BK368.out 1).trans rfl, (blk_cell BK369.out 0).trans rfl, (blk_cell BK369.out 1).trans rfl⟩ (fun hHeld => ?_)
   clear hK K
   refine norm_ (a' := ?_) ?_ ?_
   rotate_left
   ·show Act.put _ (some 26) _ = _
    exact zs
   refine one_ (i := 21) (N := some 30) (zl 26 4194303) rfl rfl (one_of HT_.out (by kernel_rfl)) (by decide) (fun K hK => ?_)
   refine goes_ Try.func173 (by kernel_rfl) rfl #[.agg #[.int .i64 a2_0, .int .i64 a2_1], .agg #[.int .i64 a3_0, .int .i64 a3_1], .agg #[.int .i64 a1_0, .int .i64 a1_1]] (by rfl) rfl rfl zn ?_
   with_reducible refine (impl_turn.calls a2_0 a2_1 a3_0 a3_1 a1_0 a1_1 t376 _ A17.out).mono ?_
   rintro e w26 ⟨rfl, hb⟩
   refine ⟨_, rfl, ?_⟩
   have n0_ := Aside0.mk (blk_below (g := gb366) (o := .cells #[.int .i64 a0_0, .int .i64 a0_1] 26 (0, 0)) zk hb)
   have n1_ := Aside0.mk (blk_below (g := gb367) (o := .cells #[.int .i64 a1_0, .int .i64 a1_1] 26 (0, 0)) zk hb)
   have n2_ := Aside0.mk (blk_below (g := gb368) (o := .cells #[.int .i64 a2_0, .int .i64 a2_1] 26 (0, 0)) zk hb)
   have n3_ := Aside0.mk (blk_below (g := gb369) (o := .cells #[.int .i64 a3_0, .int .i64 a3_1] 26 (0, 0)) zk hb)
   have n4_ := Aside0.mk (below_step zb hb)
   clear BK366
   clear BK367
   clear BK368
   clear BK369
   clear HB
   have BK366 := n0_
   have BK367 := n1_
   have BK368 := n2_
   have BK369 := n3_
   have HB := n4_
   clear n0_ n1_ n2_ n3_ n4_
   (try clear hb)
   (try clear hb2)
   (try clear hk)
   (try clear hi)
   refine hK.out _ _ ⟨(blk_cell BK366.out 0).trans rfl, (blk_cell BK366.out 1).trans rfl, (blk_cell BK367.out 0).trans rfl, (blk_cell BK367.out 1).trans rfl, (blk_cell BK368.out 0).trans rfl, (blk_cell BK368.out 1).trans rfl, (blk_cell BK369.out 0).trans rfl, (blk_cell BK369.out 1).trans rfl⟩ (fun hHeld => ?_)
   clear hK K
   refine norm_ (a' := ?_) ?_ ?_
   rotate_left
   ·show Act.put _ (some 30) _ = _
    exact zs
   refine one_ (i := 22) (N := some 31) (zl 26 8388607) rfl rfl (one_of HT_.out (by kernel_rfl)) (by decide) (fun K hK => ?_)
   refine goes_ Try.func199 (by kernel_rfl) rfl #[.int .i64 t376] (by rfl) rfl rfl zn ?_
   with_reducible refine (impl_sign.calls t376 t377 _ A18.out).mono ?_
   rintro e w27 ⟨rfl, hb⟩
   refine ⟨_, rfl, ?_⟩
   have n0_ := Aside0.mk (blk_below (g := gb366) (o := .cells #[.int .i64 a0_0, .int .i64 a0_1] 26 (0, 0)) zk hb)
   have n1_ := Aside0.mk (blk_below (g := gb367) (o := .cells #[.int .i64 a1_0, .int .i64 a1_1] 26 (0, 0)) zk hb)
   have n2_ := Aside0.mk (blk_below (g := gb368) (o := .cells #[.int .i64 a2_0, .int .i64 a2_1] 26 (0, 0)) zk hb)
   have n3_ := Aside0.mk (blk_below (g := gb369) (o := .cells #[.int .i64 a3_0, .int .i64 a3_1] 26 (0, 0)) zk hb)
   have n4_ := Aside0.mk (below_step zb hb)
   clear BK366
   clear BK367
   clear BK368
   clear BK369
   clear HB
   have BK366 := n0_
   have BK367 := n1_
   have BK368 := n2_
   have BK369 := n3_
   have HB := n4_
   clear n0_ n1_ n2_ n3_ n4_
   (try clear hb)
   (try clear hb2)
   (try clear hk)
   (try clear hi)
   refine hK.out _ _ ⟨(blk_cell BK366.out 0).trans rfl, (blk_cell BK366.out 1).trans rfl, (blk_cell BK367.out 0).trans rfl, (blk_cell BK367.out 1).trans rfl, (blk_cell BK368.out 0).trans rfl, (blk_cell BK368.out 1).trans rfl, (blk_cell BK369.out 0).trans rfl, (blk_cell BK369.out 1).trans rfl⟩ (fun hHeld => ?_)
   clear hK K
   refine norm_ (a' := ?_) ?_ ?_
   rotate_left
   ·show Act.put _ (some 31) _ = _
    exact zs
   refine zp 23 32 26 16777215 HT_ ?_
   refine zp 24 33 26 33554431 HT_ ?_
   refine zp 25 34 26 67108863 HT_ ?_
   refine done_ (done_of HT_.out (by kernel_rfl)) ?_
   try go_wp2
   go_meet
   case rel => exact ⟨_, (decide ((wrap64 (t375 * t377)) < 0)), (by first | rfl | (simp; done) | (simp [*]; done)), H', ⟨by first | omega | exact Nat.le_refl _⟩, ⟨zk⟩, ⟨zk⟩, ⟨zk⟩, ⟨zk⟩, ⟨zb⟩⟩
  ·rw [if_neg c14] at H
   have c14b0 : decide ((wrap64 (t371 * t373)) < 0) = false := decide_eq_false c14
   clear c14
   (first | rw [c14b0] | (simp only [i64_w, i32_w]; rw [c14b0]) | skip)
   have H' := Aside0.mk H
   clear H
   try go_wp2
   have n0_ := Aside0.mk (blk_drew BK366.out)
   have n1_ := Aside0.mk (blk_drew BK367.out)
   have n2_ := Aside0.mk (blk_drew BK368.out)
   have n3_ := Aside0.mk (blk_drew BK369.out)
   have n4_ := Aside0.mk (below_drew1 HB.out)
   clear BK366
   clear BK367
   clear BK368
   clear BK369
   clear HB
   have BK366 := n0_
   have BK367 := n1_
   have BK368 := n2_
   have BK369 := n3_
   have HB := n4_
   clear n0_ n1_ n2_ n3_ n4_
   refine start_ (n := 26) (S := fun w' => w'.cell? ⟨gb366, 0, none⟩ = some (.int .i64 a0_0) ∧ w'.cell? ⟨gb366, 1, none⟩ = some (.int .i64 a0_1) ∧ w'.cell? ⟨gb367, 0, none⟩ = some (.int .i64 a1_0) ∧ w'.cell? ⟨gb367, 1, none⟩ = some (.int .i64 a1_1) ∧ w'.cell? ⟨gb368, 0, none⟩ = some (.int .i64 a2_0) ∧ w'.cell? ⟨gb368, 1, none⟩ = some (.int .i64 a2_1) ∧ w'.cell? ⟨gb369, 0, none⟩ = some (.int .i64 a3_0) ∧ w'.cell? ⟨gb369, 1, none⟩ = some (.int .i64 a3_1)) (ds := []) (zl 26 0) (by kernel_rfl) rfl rfl ⟨(blk_cell BK366.out 0).trans rfl, (blk_cell BK366.out 1).trans rfl, (blk_cell BK367.out 0).trans rfl, (blk_cell BK367.out 1).trans rfl, (blk_cell BK368.out 0).trans rfl, (blk_cell BK368.out 1).trans rfl, (blk_cell BK369.out 0).trans rfl, (blk_cell BK369.out 1).trans rfl⟩ (fun hHeld => ?_); refine with_tabW impl_meet.tab1 impl_meet.bits1 (fun HT_ HW_ => ?_)
   generalize w9.drew = w28 at BK366 BK367 BK368 BK369 HB hHeld ⊢
   refine take_ (i := 0) (N := some 9) (v := ?_) (a' := ?_) (zl 26 1) rfl rfl (take_ofW HT_.out HW_.out (by kernel_rfl)) (fun _ _ _ h => h) (Or.inl ⟨by rfl, ?_⟩) hHeld ?_ ?_
   rotate_left
   ·rintro w' ⟨s0, s1, s2, s3, s4, s5, s6, s7⟩
    go_simp
    with_reducible rfl
   rotate_left
   ·exact zs
   refine take_ (i := 1) (N := some 10) (v := ?_) (a' := ?_) (zl 26 3) rfl rfl (take_ofW HT_.out HW_.out (by kernel_rfl)) (fun _ _ _ h => h) (Or.inl ⟨by rfl, ?_⟩) hHeld ?_ ?_
   rotate_left
   ·rintro w' ⟨s0, s1, s2, s3, s4, s5, s6, s7⟩
    go_simp
    with_reducible rfl
   rotate_left
   ·exact zs
   refine take_ (i := 2) (N := some 11) (v := ?_) (a' := ?_) (zl 26 7) rfl rfl (take_ofW HT_.out HW_.out (by kernel_rfl)) (fun _ _ _ h => h) (Or.inl ⟨by rfl, ?_⟩) hHeld ?_ ?_
   rotate_left
   ·rintro w' ⟨s0, s1, s2, s3, s4, s5, s6, s7⟩
    go_simp
    with_reducible rfl
   rotate_left
   ·exact zs
   refine take_ (i := 5) (N := some 14) (v := ?_) (a' := ?_) (zl 26 39) rfl rfl (take_ofW HT_.out HW_.out (by kernel_rfl)) (fun _ _ _ h => h) (Or.inl ⟨by rfl, ?_⟩) hHeld ?_ ?_
   rotate_left
   ·rintro w' ⟨s0, s1, s2, s3, s4, s5, s6, s7⟩
    go_simp
    with_reducible rfl
   rotate_left
   ·exact zs
   refine take_ (i := 6) (N := some 15) (v := ?_) (a' := ?_) (zl 26 103) rfl rfl (take_ofW HT_.out HW_.out (by kernel_rfl)) (fun _ _ _ h => h) (Or.inl ⟨by rfl, ?_⟩) hHeld ?_ ?_
   rotate_left
   ·rintro w' ⟨s0, s1, s2, s3, s4, s5, s6, s7⟩
    go_simp
    with_reducible rfl
   rotate_left
   ·exact zs
   refine take_ (i := 7) (N := some 16) (v := ?_) (a' := ?_) (zl 26 231) rfl rfl (take_ofW HT_.out HW_.out (by kernel_rfl)) (fun _ _ _ h => h) (Or.inl ⟨by rfl, ?_⟩) hHeld ?_ ?_
   rotate_left
   ·rintro w' ⟨s0, s1, s2, s3, s4, s5, s6, s7⟩
    go_simp
    with_reducible rfl
   rotate_left
   ·exact zs
   refine one_ (i := 3) (N := some 12) (zl 26 239) rfl rfl (one_of HT_.out (by kernel_rfl)) (by decide) (fun K hK => ?_)
   refine goes_ Try.func173 (by kernel_rfl) rfl #[.agg #[.int .i64 a0_0, .int .i64 a0_1], .agg #[.int .i64 a1_0, .int .i64 a1_1], .agg #[.int .i64 a2_0, .int .i64 a2_1]] (by rfl) rfl rfl zn ?_
   with_reducible refine (impl_turn.calls a0_0 a0_1 a1_0 a1_1 a2_0 a2_1 t370 _ A10.out).mono ?_
   rintro e w29 ⟨rfl, hb⟩
   refine ⟨_, rfl, ?_⟩
   have n0_ := Aside0.mk (blk_below (g := gb366) (o := .cells #[.int .i64 a0_0, .int .i64 a0_1] 26 (0, 0)) zk hb)
   have n1_ := Aside0.mk (blk_below (g := gb367) (o := .cells #[.int .i64 a1_0, .int .i64 a1_1] 26 (0, 0)) zk hb)
   have n2_ := Aside0.mk (blk_below (g := gb368) (o := .cells #[.int .i64 a2_0, .int .i64 a2_1] 26 (0, 0)) zk hb)
   have n3_ := Aside0.mk (blk_below (g := gb369) (o := .cells #[.int .i64 a3_0, .int .i64 a3_1] 26 (0, 0)) zk hb)
   have n4_ := Aside0.mk (below_step zb hb)
   clear BK366
   clear BK367
   clear BK368
   clear BK369
   clear HB
   have BK366 := n0_
   have BK367 := n1_
   have BK368 := n2_
   have BK369 := n3_
   have HB := n4_
   clear n0_ n1_ n2_ n3_ n4_
   (try clear hb)
   (try clear hb2)
   (try clear hk)
   (try clear hi)
   refine hK.out _ _ ⟨(blk_cell BK366.out 0).trans rfl, (blk_cell BK366.out 1).trans rfl, (blk_cell BK367.out 0).trans rfl, (blk_cell BK367.out 1).trans rfl, (blk_cell BK368.out 0).trans rfl, (blk_cell BK368.out 1).trans rfl, (blk_cell BK369.out 0).trans rfl, (blk_cell BK369.out 1).trans rfl⟩ (fun hHeld => ?_)
   clear hK K
   refine norm_ (a' := ?_) ?_ ?_
   rotate_left
   ·show Act.put _ (some 12) _ = _
    exact zs
   refine one_ (i := 4) (N := some 13) (zl 26 255) rfl rfl (one_of HT_.out (by kernel_rfl)) (by decide) (fun K hK => ?_)
   refine goes_ Try.func199 (by kernel_rfl) rfl #[.int .i64 t370] (by rfl) rfl rfl zn ?_
   with_reducible refine (impl_sign.calls t370 t371 _ A11.out).mono ?_
   rintro e w30 ⟨rfl, hb⟩
   refine ⟨_, rfl, ?_⟩
   have n0_ := Aside0.mk (blk_below (g := gb366) (o := .cells #[.int .i64 a0_0, .int .i64 a0_1] 26 (0, 0)) zk hb)
   have n1_ := Aside0.mk (blk_below (g := gb367) (o := .cells #[.int .i64 a1_0, .int .i64 a1_1] 26 (0, 0)) zk hb)
   have n2_ := Aside0.mk (blk_below (g := gb368) (o := .cells #[.int .i64 a2_0, .int .i64 a2_1] 26 (0, 0)) zk hb)
   have n3_ := Aside0.mk (blk_below (g := gb369) (o := .cells #[.int .i64 a3_0, .int .i64 a3_1] 26 (0, 0)) zk hb)
   have n4_ := Aside0.mk (below_step zb hb)
   clear BK366
   clear BK367
   clear BK368
   clear BK369
   clear HB
   have BK366 := n0_
   have BK367 := n1_
   have BK368 := n2_
   have BK369 := n3_
   have HB := n4_
   clear n0_ n1_ n2_ n3_ n4_
   (try clear hb)
   (try clear hb2)
   (try clear hk)
   (try clear hi)
   refine hK.out _ _ ⟨(blk_cell BK366.out 0).trans rfl, (blk_cell BK366.out 1).trans rfl, (blk_cell BK367.out 0).trans rfl, (blk_cell BK367.out 1).trans rfl, (blk_cell BK368.out 0).trans rfl, (blk_cell BK368.out 1).trans rfl, (blk_cell BK369.out 0).trans rfl, (blk_cell BK369.out 1).trans rfl⟩ (fun hHeld => ?_)
   clear hK K
   refine norm_ (a' := ?_) ?_ ?_
   rotate_left
   ·show Act.put _ (some 13) _ = _
    exact zs
   refine one_ (i := 8) (N := some 17) (zl 26 511) rfl rfl (one_of HT_.out (by kernel_rfl)) (by decide) (fun K hK => ?_)
   refine goes_ Try.func173 (by kernel_rfl) rfl #[.agg #[.int .i64 a0_0, .int .i64 a0_1], .agg #[.int .i64 a1_0, .int .i64 a1_1], .agg #[.int .i64 a3_0, .int .i64 a3_1]] (by rfl) rfl rfl zn ?_
   with_reducible refine (impl_turn.calls a0_0 a0_1 a1_0 a1_1 a3_0 a3_1 t372 _ A12.out).mono ?_
   rintro e w31 ⟨rfl, hb⟩
   refine ⟨_, rfl, ?_⟩
   have n0_ := Aside0.mk (blk_below (g := gb366) (o := .cells #[.int .i64 a0_0, .int .i64 a0_1] 26 (0, 0)) zk hb)
   have n1_ := Aside0.mk (blk_below (g := gb367) (o := .cells #[.int .i64 a1_0, .int .i64 a1_1] 26 (0, 0)) zk hb)
   have n2_ := Aside0.mk (blk_below (g := gb368) (o := .cells #[.int .i64 a2_0, .int .i64 a2_1] 26 (0, 0)) zk hb)
   have n3_ := Aside0.mk (blk_below (g := gb369) (o := .cells #[.int .i64 a3_0, .int .i64 a3_1] 26 (0, 0)) zk hb)
   have n4_ := Aside0.mk (below_step zb hb)
   clear BK366
   clear BK367
   clear BK368
   clear BK369
   clear HB
   have BK366 := n0_
   have BK367 := n1_
   have BK368 := n2_
   have BK369 := n3_
   have HB := n4_
   clear n0_ n1_ n2_ n3_ n4_
   (try clear hb)
   (try clear hb2)
   (try clear hk)
   (try clear hi)
   refine hK.out _ _ ⟨(blk_cell BK366.out 0).trans rfl, (blk_cell BK366.out 1).trans rfl, (blk_cell BK367.out 0).trans rfl, (blk_cell BK367.out 1).trans rfl, (blk_cell BK368.out 0).trans rfl, (blk_cell BK368.out 1).trans rfl, (blk_cell BK369.out 0).trans rfl, (blk_cell BK369.out 1).trans rfl⟩ (fun hHeld => ?_)
   clear hK K
   refine norm_ (a' := ?_) ?_ ?_
   rotate_left
   ·show Act.put _ (some 17) _ = _
    exact zs
   refine one_ (i := 9) (N := some 18) (zl 26 1023) rfl rfl (one_of HT_.out (by kernel_rfl)) (by decide) (fun K hK => ?_)
   refine goes_ Try.func199 (by kernel_rfl) rfl #[.int .i64 t372] (by rfl) rfl rfl zn ?_
   with_reducible refine (impl_sign.calls t372 t373 _ A13.out).mono ?_
   rintro e w32 ⟨rfl, hb⟩
   refine ⟨_, rfl, ?_⟩
   have n0_ := Aside0.mk (blk_below (g := gb366) (o := .cells #[.int .i64 a0_0, .int .i64 a0_1] 26 (0, 0)) zk hb)
   have n1_ := Aside0.mk (blk_below (g := gb367) (o := .cells #[.int .i64 a1_0, .int .i64 a1_1] 26 (0, 0)) zk hb)
   have n2_ := Aside0.mk (blk_below (g := gb368) (o := .cells #[.int .i64 a2_0, .int .i64 a2_1] 26 (0, 0)) zk hb)
   have n3_ := Aside0.mk (blk_below (g := gb369) (o := .cells #[.int .i64 a3_0, .int .i64 a3_1] 26 (0, 0)) zk hb)
   have n4_ := Aside0.mk (below_step zb hb)
   clear BK366
   clear BK367
   clear BK368
   clear BK369
   clear HB
   have BK366 := n0_
   have BK367 := n1_
   have BK368 := n2_
   have BK369 := n3_
   have HB := n4_
   clear n0_ n1_ n2_ n3_ n4_
   (try clear hb)
   (try clear hb2)
   (try clear hk)
   (try clear hi)
   refine hK.out _ _ ⟨(blk_cell BK366.out 0).trans rfl, (blk_cell BK366.out 1).trans rfl, (blk_cell BK367.out 0).trans rfl, (blk_cell BK367.out 1).trans rfl, (blk_cell BK368.out 0).trans rfl, (blk_cell BK368.out 1).trans rfl, (blk_cell BK369.out 0).trans rfl, (blk_cell BK369.out 1).trans rfl⟩ (fun hHeld => ?_)
   clear hK K
   refine norm_ (a' := ?_) ?_ ?_
   rotate_left
   ·show Act.put _ (some 18) _ = _
    exact zs
   refine zp 10 19 26 2047 HT_ ?_
   refine zp 11 20 26 4095 HT_ ?_
   refine zp 12 21 26 8191 HT_ ?_
   refine pure_ (i := 13) (N := some 22) (v := undef) (a' := ?_) (zl 26 16383) rfl rfl (any_of HT_.out (by kernel_rfl)) (fun _ _ _ h => h) (Or.inr ⟨by rfl, rfl⟩) ?_ ?_
   rotate_left
   ·exact zs
   refine pure_ (i := 14) (N := some 23) (v := undef) (a' := ?_) (zl 26 32767) rfl rfl (any_of HT_.out (by kernel_rfl)) (fun _ _ _ h => h) (Or.inr ⟨by rfl, rfl⟩) ?_ ?_
   rotate_left
   ·exact zs
   refine pure_ (i := 15) (N := some 24) (v := undef) (a' := ?_) (zl 26 65535) rfl rfl (any_of HT_.out (by kernel_rfl)) (fun _ _ _ h => h) (Or.inr ⟨by rfl, rfl⟩) ?_ ?_
   rotate_left
   ·exact zs
   refine pure_ (i := 16) (N := some 25) (v := undef) (a' := ?_) (zl 26 131071) rfl rfl (any_of HT_.out (by kernel_rfl)) (fun _ _ _ h => h) (Or.inr ⟨by rfl, rfl⟩) ?_ ?_
   rotate_left
   ·exact zs
   refine pure_ (i := 17) (N := some 26) (v := undef) (a' := ?_) (zl 26 262143) rfl rfl (any_of HT_.out (by kernel_rfl)) (fun _ _ _ h => h) (Or.inr ⟨by rfl, rfl⟩) ?_ ?_
   rotate_left
   ·exact zs
   refine pure_ (i := 18) (N := some 27) (v := undef) (a' := ?_) (zl 26 524287) rfl rfl (any_of HT_.out (by kernel_rfl)) (fun _ _ _ h => h) (Or.inr ⟨by rfl, rfl⟩) ?_ ?_
   rotate_left
   ·exact zs
   refine pure_ (i := 19) (N := some 28) (v := undef) (a' := ?_) (zl 26 1048575) rfl rfl (any_of HT_.out (by kernel_rfl)) (fun _ _ _ h => h) (Or.inr ⟨by rfl, rfl⟩) ?_ ?_
   rotate_left
   ·exact zs
   refine pure_ (i := 20) (N := some 29) (v := undef) (a' := ?_) (zl 26 2097151) rfl rfl (any_of HT_.out (by kernel_rfl)) (fun _ _ _ h => h) (Or.inr ⟨by rfl, rfl⟩) ?_ ?_
   rotate_left
   ·exact zs
   refine pure_ (i := 21) (N := some 30) (v := undef) (a' := ?_) (zl 26 4194303) rfl rfl (any_of HT_.out (by kernel_rfl)) (fun _ _ _ h => h) (Or.inr ⟨by rfl, rfl⟩) ?_ ?_
   rotate_left
   ·exact zs
   refine pure_ (i := 22) (N := some 31) (v := undef) (a' := ?_) (zl 26 8388607) rfl rfl (any_of HT_.out (by kernel_rfl)) (fun _ _ _ h => h) (Or.inr ⟨by rfl, rfl⟩) ?_ ?_
   rotate_left
   ·exact zs
   refine pure_ (i := 23) (N := some 32) (v := undef) (a' := ?_) (zl 26 16777215) rfl rfl (any_of HT_.out (by kernel_rfl)) (fun _ _ _ h => h) (Or.inr ⟨by rfl, rfl⟩) ?_ ?_
   rotate_left
   ·exact zs
   refine pure_ (i := 24) (N := some 33) (v := undef) (a' := ?_) (zl 26 33554431) rfl rfl (any_of HT_.out (by kernel_rfl)) (fun _ _ _ h => h) (Or.inr ⟨by rfl, rfl⟩) ?_ ?_
   rotate_left
   ·exact zs
   refine zp 25 34 26 67108863 HT_ ?_
   refine done_ (done_of HT_.out (by kernel_rfl)) ?_
   try go_wp2
   go_meet
   case rel => exact ⟨_, (false), (by first | rfl | (simp; done) | (simp [*]; done)), H', ⟨by first | omega | exact Nat.le_refl _⟩, ⟨zk⟩, ⟨zk⟩, ⟨zk⟩, ⟨zk⟩, ⟨zb⟩⟩
 case rest =>
  clear HC5
  try clear c1
  try clear p2
  try clear p6
  try clear c14
  try clear c14b0
  try clear c17
  try clear c19
  obtain ⟨kq, x34_4, rfl, HA, HJ4, BK366, BK367, BK368, BK369, HB⟩ := hcut
  cases kq with
  | zero => exact absurd HA.out (by simp [impl_meet.j0])
  | succ kj4 =>
   have H := HA.out
   clear HA
   simp only [impl_meet.j0] at H
   by_cases c33 : x34_4 = true
   ·subst c33
    have H1 : (some true) = some r := by rw [if_pos rfl] at H; exact H
    clear H
    have H := H1
    clear H1
    obtain rfl := Option.some.inj H
    go_wp2
    go_ret
    exact ⟨by first | rfl | (simp [errW_none, errW_some] <;> rfl) | (simp [*, errW_none, errW_some] <;> rfl), zb⟩
   ·replace c33 := Bool.eq_false_iff.mpr c33
    subst c33
    have H1 : ((impl_isOn.f a0_0 a0_1 a1_0 a1_1 a2_0 a2_1).bind fun t378 => (if t378 = true then (some true) else ((impl_isOn.f a0_0 a0_1 a1_0 a1_1 a3_0 a3_1).bind fun t379 => (if t379 = true then (some true) else ((impl_isOn.f a2_0 a2_1 a3_0 a3_1 a0_0 a0_1).bind fun t380 => (if t380 = true then (some true) else ((impl_isOn.f a2_0 a2_1 a3_0 a3_1 a1_0 a1_1).bind fun t381 => (some t381)))))))) = some r := by rw [if_neg (show ¬ (false = true) by decide)] at H; exact H
    clear H
    have H := H1
    clear H1
    replace H := Option.bind_eq_some_iff.mp H
    obtain ⟨t378, A340, H⟩ := H
    replace H : (if t378 = true then (some true) else ((impl_isOn.f a0_0 a0_1 a1_0 a1_1 a3_0 a3_1).bind fun t379 => (if t379 = true then (some true) else ((impl_isOn.f a2_0 a2_1 a3_0 a3_1 a0_0 a0_1).bind fun t380 => (if t380 = true then (some true) else ((impl_isOn.f a2_0 a2_1 a3_0 a3_1 a1_0 a1_1).bind fun t381 => (some t381))))))) = some r := H
    have A34 := Aside0.mk A340
    clear A340
    by_cases c35 : t378 = true
    ·subst c35
     have H1 : (some true) = some r := by rw [if_pos rfl] at H; exact H
     clear H
     have H := H1
     clear H1
     obtain rfl := Option.some.inj H
     have hnb36 := NB366_367.out
     have hnc36 := NB367_366.out
     have hnb37 := NB366_368.out
     have hnc37 := NB368_366.out
     have hnb38 := NB366_369.out
     have hnc38 := NB369_366.out
     have hcz39_0 : wc.cell? ⟨gb366, 0, none⟩ = some (.int .i64 a0_0) := (blk_cell BK366.out 0).trans rfl
     have hcz39_1 : wc.cell? ⟨gb366, 1, none⟩ = some (.int .i64 a0_1) := (blk_cell BK366.out 1).trans rfl
     have hfz39_0 := blk_frozen BK366.out 0
     have hfz39_1 := blk_frozen BK366.out 1
     have hnb40 := NB367_368.out
     have hnc40 := NB368_367.out
     have hnb41 := NB367_369.out
     have hnc41 := NB369_367.out
     have hcz42_0 : wc.cell? ⟨gb367, 0, none⟩ = some (.int .i64 a1_0) := (blk_cell BK367.out 0).trans rfl
     have hcz42_1 : wc.cell? ⟨gb367, 1, none⟩ = some (.int .i64 a1_1) := (blk_cell BK367.out 1).trans rfl
     have hfz42_0 := blk_frozen BK367.out 0
     have hfz42_1 := blk_frozen BK367.out 1
     have hnb43 := NB368_369.out
     have hnc43 := NB369_368.out
     have hcz44_0 : wc.cell? ⟨gb368, 0, none⟩ = some (.int .i64 a2_0) := (blk_cell BK368.out 0).trans rfl
     have hcz44_1 : wc.cell? ⟨gb368, 1, none⟩ = some (.int .i64 a2_1) := (blk_cell BK368.out 1).trans rfl
     have hfz44_0 := blk_frozen BK368.out 0
     have hfz44_1 := blk_frozen BK368.out 1
     go_wp2_with (first | ((with_reducible refine gate_callee (f := 178) rfl ?_); refine goesL_ (some 38) rfl rfl Try.func178 (by kernel_rfl) rfl #[.agg #[.int .i64 a0_0, .int .i64 a0_1], .agg #[.int .i64 a1_0, .int .i64 a1_1], .agg #[.int .i64 a2_0, .int .i64 a2_1]] rfl zn ?_; (with_reducible refine (impl_isOn.calls a0_0 a0_1 a1_0 a1_1 a2_0 a2_1 true _ A34.out).mono ?_); rintro e w45 ⟨rfl, hb⟩; refine ⟨_, rfl, ?_⟩; have n0_ := Aside0.mk (blk_below (g := gb366) (o := .cells #[.int .i64 a0_0, .int .i64 a0_1] 26 (0, 0)) zk hb); have n1_ := Aside0.mk (blk_below (g := gb367) (o := .cells #[.int .i64 a1_0, .int .i64 a1_1] 26 (0, 0)) zk hb); have n2_ := Aside0.mk (blk_below (g := gb368) (o := .cells #[.int .i64 a2_0, .int .i64 a2_1] 26 (0, 0)) zk hb); have n3_ := Aside0.mk (blk_below (g := gb369) (o := .cells #[.int .i64 a3_0, .int .i64 a3_1] 26 (0, 0)) zk hb); have n4_ := Aside0.mk (below_step zb hb); clear BK366; clear BK367; clear BK368; clear BK369; clear HB; have BK366 := n0_; have BK367 := n1_; have BK368 := n2_; have BK369 := n3_; have HB := n4_; clear n0_ n1_ n2_ n3_ n4_; (try clear hb); (try clear hb2); (try clear hk); (try clear hi)))
     go_ret
     exact ⟨by first | rfl | (simp [errW_none, errW_some] <;> rfl) | (simp [*, errW_none, errW_some] <;> rfl), zb⟩
    ·replace c35 := Bool.eq_false_iff.mpr c35
     subst c35
     have H1 : ((impl_isOn.f a0_0 a0_1 a1_0 a1_1 a3_0 a3_1).bind fun t379 => (if t379 = true then (some true) else ((impl_isOn.f a2_0 a2_1 a3_0 a3_1 a0_0 a0_1).bind fun t380 => (if t380 = true then (some true) else ((impl_isOn.f a2_0 a2_1 a3_0 a3_1 a1_0 a1_1).bind fun t381 => (some t381)))))) = some r := by rw [if_neg (show ¬ (false = true) by decide)] at H; exact H
     clear H
     have H := H1
     clear H1
     replace H := Option.bind_eq_some_iff.mp H
     obtain ⟨t379, A460, H⟩ := H
     replace H : (if t379 = true then (some true) else ((impl_isOn.f a2_0 a2_1 a3_0 a3_1 a0_0 a0_1).bind fun t380 => (if t380 = true then (some true) else ((impl_isOn.f a2_0 a2_1 a3_0 a3_1 a1_0 a1_1).bind fun t381 => (some t381))))) = some r := H
     have A46 := Aside0.mk A460
     clear A460
     by_cases c47 : t379 = true
     ·subst c47
      have H1 : (some true) = some r := by rw [if_pos rfl] at H; exact H
      clear H
      have H := H1
      clear H1
      obtain rfl := Option.some.inj H
      have hnb48 := NB366_367.out
      have hnc48 := NB367_366.out
      have hnb49 := NB366_368.out
      have hnc49 := NB368_366.out
      have hnb50 := NB366_369.out
      have hnc50 := NB369_366.out
      have hcz51_0 : wc.cell? ⟨gb366, 0, none⟩ = some (.int .i64 a0_0) := (blk_cell BK366.out 0).trans rfl
      have hcz51_1 : wc.cell? ⟨gb366, 1, none⟩ = some (.int .i64 a0_1) := (blk_cell BK366.out 1).trans rfl
      have hfz51_0 := blk_frozen BK366.out 0
      have hfz51_1 := blk_frozen BK366.out 1
      have hnb52 := NB367_368.out
      have hnc52 := NB368_367.out
      have hnb53 := NB367_369.out
      have hnc53 := NB369_367.out
      have hcz54_0 : wc.cell? ⟨gb367, 0, none⟩ = some (.int .i64 a1_0) := (blk_cell BK367.out 0).trans rfl
      have hcz54_1 : wc.cell? ⟨gb367, 1, none⟩ = some (.int .i64 a1_1) := (blk_cell BK367.out 1).trans rfl
      have hfz54_0 := blk_frozen BK367.out 0
      have hfz54_1 := blk_frozen BK367.out 1
      have hnb55 := NB368_369.out
      have hnc55 := NB369_368.out
      have hcz56_0 : wc.cell? ⟨gb368, 0, none⟩ = some (.int .i64 a2_0) := (blk_cell BK368.out 0).trans rfl
      have hcz56_1 : wc.cell? ⟨gb368, 1, none⟩ = some (.int .i64 a2_1) := (blk_cell BK368.out 1).trans rfl
      have hfz56_0 := blk_frozen BK368.out 0
      have hfz56_1 := blk_frozen BK368.out 1
      go_wp2_with (first | ((with_reducible refine gate_callee (f := 178) rfl ?_); refine goesL_ (some 38) rfl rfl Try.func178 (by kernel_rfl) rfl #[.agg #[.int .i64 a0_0, .int .i64 a0_1], .agg #[.int .i64 a1_0, .int .i64 a1_1], .agg #[.int .i64 a2_0, .int .i64 a2_1]] rfl zn ?_; (with_reducible refine (impl_isOn.calls a0_0 a0_1 a1_0 a1_1 a2_0 a2_1 false _ A34.out).mono ?_); rintro e w57 ⟨rfl, hb⟩; refine ⟨_, rfl, ?_⟩; have n0_ := Aside0.mk (blk_below (g := gb366) (o := .cells #[.int .i64 a0_0, .int .i64 a0_1] 26 (0, 0)) zk hb); have n1_ := Aside0.mk (blk_below (g := gb367) (o := .cells #[.int .i64 a1_0, .int .i64 a1_1] 26 (0, 0)) zk hb); have n2_ := Aside0.mk (blk_below (g := gb368) (o := .cells #[.int .i64 a2_0, .int .i64 a2_1] 26 (0, 0)) zk hb); have n3_ := Aside0.mk (blk_below (g := gb369) (o := .cells #[.int .i64 a3_0, .int .i64 a3_1] 26 (0, 0)) zk hb); have n4_ := Aside0.mk (below_step zb hb); clear BK366; clear BK367; clear BK368; clear BK369; clear HB; have BK366 := n0_; have BK367 := n1_; have BK368 := n2_; have BK369 := n3_; have HB := n4_; clear n0_ n1_ n2_ n3_ n4_; (try clear hb); (try clear hb2); (try clear hk); (try clear hi); have hcz58_0 : w57.cell? ⟨gb366, 0, none⟩ = some (.int .i64 a0_0) := (blk_cell BK366.out 0).trans rfl; have hcz58_1 : w57.cell? ⟨gb366, 1, none⟩ = some (.int .i64 a0_1) := (blk_cell BK366.out 1).trans rfl; have hfz58_0 := blk_frozen BK366.out 0; have hfz58_1 := blk_frozen BK366.out 1; have hcz59_0 : w57.cell? ⟨gb367, 0, none⟩ = some (.int .i64 a1_0) := (blk_cell BK367.out 0).trans rfl; have hcz59_1 : w57.cell? ⟨gb367, 1, none⟩ = some (.int .i64 a1_1) := (blk_cell BK367.out 1).trans rfl; have hfz59_0 := blk_frozen BK367.out 0; have hfz59_1 := blk_frozen BK367.out 1; have hcz60_0 : w57.cell? ⟨gb369, 0, none⟩ = some (.int .i64 a3_0) := (blk_cell BK369.out 0).trans rfl; have hcz60_1 : w57.cell? ⟨gb369, 1, none⟩ = some (.int .i64 a3_1) := (blk_cell BK369.out 1).trans rfl; have hfz60_0 := blk_frozen BK369.out 0; have hfz60_1 := blk_frozen BK369.out 1) | (go_at_call 178; (with_reducible refine (impl_isOn.calls a0_0 a0_1 a1_0 a1_1 a3_0 a3_1 true _ A46.out).mono ?_); rintro e w61 ⟨rfl, hb⟩; have n0_ := Aside0.mk (blk_below (g := gb366) (o := .cells #[.int .i64 a0_0, .int .i64 a0_1] 26 (0, 0)) zk hb); have n1_ := Aside0.mk (blk_below (g := gb367) (o := .cells #[.int .i64 a1_0, .int .i64 a1_1] 26 (0, 0)) zk hb); have n2_ := Aside0.mk (blk_below (g := gb368) (o := .cells #[.int .i64 a2_0, .int .i64 a2_1] 26 (0, 0)) zk hb); have n3_ := Aside0.mk (blk_below (g := gb369) (o := .cells #[.int .i64 a3_0, .int .i64 a3_1] 26 (0, 0)) zk hb); have n4_ := Aside0.mk (below_step zb hb); clear BK366; clear BK367; clear BK368; clear BK369; clear HB; have BK366 := n0_; have BK367 := n1_; have BK368 := n2_; have BK369 := n3_; have HB := n4_; clear n0_ n1_ n2_ n3_ n4_; (try clear hb); (try clear hb2); (try clear hk); (try clear hi)))
      go_ret
      exact ⟨by first | rfl | (simp [errW_none, errW_some] <;> rfl) | (simp [*, errW_none, errW_some] <;> rfl), zb⟩
     ·replace c47 := Bool.eq_false_iff.mpr c47
      subst c47
      have H1 : ((impl_isOn.f a2_0 a2_1 a3_0 a3_1 a0_0 a0_1).bind fun t380 => (if t380 = true then (some true) else ((impl_isOn.f a2_0 a2_1 a3_0 a3_1 a1_0 a1_1).bind fun t381 => (some t381)))) = some r := by rw [if_neg (show ¬ (false = true) by decide)] at H; exact H
      clear H
      have H := H1
      clear H1
      replace H := Option.bind_eq_some_iff.mp H
      obtain ⟨t380, A620, H⟩ := H
      replace H : (if t380 = true then (some true) else ((impl_isOn.f a2_0 a2_1 a3_0 a3_1 a1_0 a1_1).bind fun t381 => (some t381))) = some r := H
      have A62 := Aside0.mk A620
      clear A620
      by_cases c63 : t380 = true
      ·subst c63
       have H1 : (some true) = some r := by rw [if_pos rfl] at H; exact H
       clear H
       have H := H1
       clear H1
       obtain rfl := Option.some.inj H
       have hnb64 := NB366_367.out
       have hnc64 := NB367_366.out
       have hnb65 := NB366_368.out
       have hnc65 := NB368_366.out
       have hnb66 := NB366_369.out
       have hnc66 := NB369_366.out
       have hcz67_0 : wc.cell? ⟨gb366, 0, none⟩ = some (.int .i64 a0_0) := (blk_cell BK366.out 0).trans rfl
       have hcz67_1 : wc.cell? ⟨gb366, 1, none⟩ = some (.int .i64 a0_1) := (blk_cell BK366.out 1).trans rfl
       have hfz67_0 := blk_frozen BK366.out 0
       have hfz67_1 := blk_frozen BK366.out 1
       have hnb68 := NB367_368.out
       have hnc68 := NB368_367.out
       have hnb69 := NB367_369.out
       have hnc69 := NB369_367.out
       have hcz70_0 : wc.cell? ⟨gb367, 0, none⟩ = some (.int .i64 a1_0) := (blk_cell BK367.out 0).trans rfl
       have hcz70_1 : wc.cell? ⟨gb367, 1, none⟩ = some (.int .i64 a1_1) := (blk_cell BK367.out 1).trans rfl
       have hfz70_0 := blk_frozen BK367.out 0
       have hfz70_1 := blk_frozen BK367.out 1
       have hnb71 := NB368_369.out
       have hnc71 := NB369_368.out
       have hcz72_0 : wc.cell? ⟨gb368, 0, none⟩ = some (.int .i64 a2_0) := (blk_cell BK368.out 0).trans rfl
       have hcz72_1 : wc.cell? ⟨gb368, 1, none⟩ = some (.int .i64 a2_1) := (blk_cell BK368.out 1).trans rfl
       have hfz72_0 := blk_frozen BK368.out 0
       have hfz72_1 := blk_frozen BK368.out 1
       go_wp2_with (first | ((with_reducible refine gate_callee (f := 178) rfl ?_); refine goesL_ (some 38) rfl rfl Try.func178 (by kernel_rfl) rfl #[.agg #[.int .i64 a0_0, .int .i64 a0_1], .agg #[.int .i64 a1_0, .int .i64 a1_1], .agg #[.int .i64 a2_0, .int .i64 a2_1]] rfl zn ?_; (with_reducible refine (impl_isOn.calls a0_0 a0_1 a1_0 a1_1 a2_0 a2_1 false _ A34.out).mono ?_); rintro e w73 ⟨rfl, hb⟩; refine ⟨_, rfl, ?_⟩; have n0_ := Aside0.mk (blk_below (g := gb366) (o := .cells #[.int .i64 a0_0, .int .i64 a0_1] 26 (0, 0)) zk hb); have n1_ := Aside0.mk (blk_below (g := gb367) (o := .cells #[.int .i64 a1_0, .int .i64 a1_1] 26 (0, 0)) zk hb); have n2_ := Aside0.mk (blk_below (g := gb368) (o := .cells #[.int .i64 a2_0, .int .i64 a2_1] 26 (0, 0)) zk hb); have n3_ := Aside0.mk (blk_below (g := gb369) (o := .cells #[.int .i64 a3_0, .int .i64 a3_1] 26 (0, 0)) zk hb); have n4_ := Aside0.mk (below_step zb hb); clear BK366; clear BK367; clear BK368; clear BK369; clear HB; have BK366 := n0_; have BK367 := n1_; have BK368 := n2_; have BK369 := n3_; have HB := n4_; clear n0_ n1_ n2_ n3_ n4_; (try clear hb); (try clear hb2); (try clear hk); (try clear hi); have hcz74_0 : w73.cell? ⟨gb366, 0, none⟩ = some (.int .i64 a0_0) := (blk_cell BK366.out 0).trans rfl; have hcz74_1 : w73.cell? ⟨gb366, 1, none⟩ = some (.int .i64 a0_1) := (blk_cell BK366.out 1).trans rfl; have hfz74_0 := blk_frozen BK366.out 0; have hfz74_1 := blk_frozen BK366.out 1; have hcz75_0 : w73.cell? ⟨gb367, 0, none⟩ = some (.int .i64 a1_0) := (blk_cell BK367.out 0).trans rfl; have hcz75_1 : w73.cell? ⟨gb367, 1, none⟩ = some (.int .i64 a1_1) := (blk_cell BK367.out 1).trans rfl; have hfz75_0 := blk_frozen BK367.out 0; have hfz75_1 := blk_frozen BK367.out 1; have hcz76_0 : w73.cell? ⟨gb369, 0, none⟩ = some (.int .i64 a3_0) := (blk_cell BK369.out 0).trans rfl; have hcz76_1 : w73.cell? ⟨gb369, 1, none⟩ = some (.int .i64 a3_1) := (blk_cell BK369.out 1).trans rfl; have hfz76_0 := blk_frozen BK369.out 0; have hfz76_1 := blk_frozen BK369.out 1) | (go_at_call 178; (with_reducible refine (impl_isOn.calls a0_0 a0_1 a1_0 a1_1 a3_0 a3_1 false _ A46.out).mono ?_); rintro e w77 ⟨rfl, hb⟩; have n0_ := Aside0.mk (blk_below (g := gb366) (o := .cells #[.int .i64 a0_0, .int .i64 a0_1] 26 (0, 0)) zk hb); have n1_ := Aside0.mk (blk_below (g := gb367) (o := .cells #[.int .i64 a1_0, .int .i64 a1_1] 26 (0, 0)) zk hb); have n2_ := Aside0.mk (blk_below (g := gb368) (o := .cells #[.int .i64 a2_0, .int .i64 a2_1] 26 (0, 0)) zk hb); have n3_ := Aside0.mk (blk_below (g := gb369) (o := .cells #[.int .i64 a3_0, .int .i64 a3_1] 26 (0, 0)) zk hb); have n4_ := Aside0.mk (below_step zb hb); clear BK366; clear BK367; clear BK368; clear BK369; clear HB; have BK366 := n0_; have BK367 := n1_; have BK368 := n2_; have BK369 := n3_; have HB := n4_; clear n0_ n1_ n2_ n3_ n4_; (try clear hb); (try clear hb2); (try clear hk); (try clear hi); have hcz78_0 : w77.cell? ⟨gb368, 0, none⟩ = some (.int .i64 a2_0) := (blk_cell BK368.out 0).trans rfl; have hcz78_1 : w77.cell? ⟨gb368, 1, none⟩ = some (.int .i64 a2_1) := (blk_cell BK368.out 1).trans rfl; have hfz78_0 := blk_frozen BK368.out 0; have hfz78_1 := blk_frozen BK368.out 1; have hcz79_0 : w77.cell? ⟨gb369, 0, none⟩ = some (.int .i64 a3_0) := (blk_cell BK369.out 0).trans rfl; have hcz79_1 : w77.cell? ⟨gb369, 1, none⟩ = some (.int .i64 a3_1) := (blk_cell BK369.out 1).trans rfl; have hfz79_0 := blk_frozen BK369.out 0; have hfz79_1 := blk_frozen BK369.out 1; have hcz80_0 : w77.cell? ⟨gb366, 0, none⟩ = some (.int .i64 a0_0) := (blk_cell BK366.out 0).trans rfl; have hcz80_1 : w77.cell? ⟨gb366, 1, none⟩ = some (.int .i64 a0_1) := (blk_cell BK366.out 1).trans rfl; have hfz80_0 := blk_frozen BK366.out 0; have hfz80_1 := blk_frozen BK366.out 1) | (go_at_call 178; (with_reducible refine (impl_isOn.calls a2_0 a2_1 a3_0 a3_1 a0_0 a0_1 true _ A62.out).mono ?_); rintro e w81 ⟨rfl, hb⟩; have n0_ := Aside0.mk (blk_below (g := gb366) (o := .cells #[.int .i64 a0_0, .int .i64 a0_1] 26 (0, 0)) zk hb); have n1_ := Aside0.mk (blk_below (g := gb367) (o := .cells #[.int .i64 a1_0, .int .i64 a1_1] 26 (0, 0)) zk hb); have n2_ := Aside0.mk (blk_below (g := gb368) (o := .cells #[.int .i64 a2_0, .int .i64 a2_1] 26 (0, 0)) zk hb); have n3_ := Aside0.mk (blk_below (g := gb369) (o := .cells #[.int .i64 a3_0, .int .i64 a3_1] 26 (0, 0)) zk hb); have n4_ := Aside0.mk (below_step zb hb); clear BK366; clear BK367; clear BK368; clear BK369; clear HB; have BK366 := n0_; have BK367 := n1_; have BK368 := n2_; have BK369 := n3_; have HB := n4_; clear n0_ n1_ n2_ n3_ n4_; (try clear hb); (try clear hb2); (try clear hk); (try clear hi)))
       go_ret
       exact ⟨by first | rfl | (simp [errW_none, errW_some] <;> rfl) | (simp [*, errW_none, errW_some] <;> rfl), zb⟩
      ·replace c63 := Bool.eq_false_iff.mpr c63
       subst c63
       have H1 : ((impl_isOn.f a2_0 a2_1 a3_0 a3_1 a1_0 a1_1).bind fun t381 => (some t381)) = some r := by rw [if_neg (show ¬ (false = true) by decide)] at H; exact H
       clear H
       have H := H1
       clear H1
       replace H := Option.bind_eq_some_iff.mp H
       obtain ⟨t381, A820, H⟩ := H
       replace H : (some t381) = some r := H
       have A82 := Aside0.mk A820
       clear A820
       obtain rfl := Option.some.inj H
       have hnb83 := NB366_367.out
       have hnc83 := NB367_366.out
       have hnb84 := NB366_368.out
       have hnc84 := NB368_366.out
       have hnb85 := NB366_369.out
       have hnc85 := NB369_366.out
       have hcz86_0 : wc.cell? ⟨gb366, 0, none⟩ = some (.int .i64 a0_0) := (blk_cell BK366.out 0).trans rfl
       have hcz86_1 : wc.cell? ⟨gb366, 1, none⟩ = some (.int .i64 a0_1) := (blk_cell BK366.out 1).trans rfl
       have hfz86_0 := blk_frozen BK366.out 0
       have hfz86_1 := blk_frozen BK366.out 1
       have hnb87 := NB367_368.out
       have hnc87 := NB368_367.out
       have hnb88 := NB367_369.out
       have hnc88 := NB369_367.out
       have hcz89_0 : wc.cell? ⟨gb367, 0, none⟩ = some (.int .i64 a1_0) := (blk_cell BK367.out 0).trans rfl
       have hcz89_1 : wc.cell? ⟨gb367, 1, none⟩ = some (.int .i64 a1_1) := (blk_cell BK367.out 1).trans rfl
       have hfz89_0 := blk_frozen BK367.out 0
       have hfz89_1 := blk_frozen BK367.out 1
       have hnb90 := NB368_369.out
       have hnc90 := NB369_368.out
       have hcz91_0 : wc.cell? ⟨gb368, 0, none⟩ = some (.int .i64 a2_0) := (blk_cell BK368.out 0).trans rfl
       have hcz91_1 : wc.cell? ⟨gb368, 1, none⟩ = some (.int .i64 a2_1) := (blk_cell BK368.out 1).trans rfl
       have hfz91_0 := blk_frozen BK368.out 0
       have hfz91_1 := blk_frozen BK368.out 1
       go_wp2_with (first | ((with_reducible refine gate_callee (f := 178) rfl ?_); refine goesL_ (some 38) rfl rfl Try.func178 (by kernel_rfl) rfl #[.agg #[.int .i64 a0_0, .int .i64 a0_1], .agg #[.int .i64 a1_0, .int .i64 a1_1], .agg #[.int .i64 a2_0, .int .i64 a2_1]] rfl zn ?_; (with_reducible refine (impl_isOn.calls a0_0 a0_1 a1_0 a1_1 a2_0 a2_1 false _ A34.out).mono ?_); rintro e w92 ⟨rfl, hb⟩; refine ⟨_, rfl, ?_⟩; have n0_ := Aside0.mk (blk_below (g := gb366) (o := .cells #[.int .i64 a0_0, .int .i64 a0_1] 26 (0, 0)) zk hb); have n1_ := Aside0.mk (blk_below (g := gb367) (o := .cells #[.int .i64 a1_0, .int .i64 a1_1] 26 (0, 0)) zk hb); have n2_ := Aside0.mk (blk_below (g := gb368) (o := .cells #[.int .i64 a2_0, .int .i64 a2_1] 26 (0, 0)) zk hb); have n3_ := Aside0.mk (blk_below (g := gb369) (o := .cells #[.int .i64 a3_0, .int .i64 a3_1] 26 (0, 0)) zk hb); have n4_ := Aside0.mk (below_step zb hb); clear BK366; clear BK367; clear BK368; clear BK369; clear HB; have BK366 := n0_; have BK367 := n1_; have BK368 := n2_; have BK369 := n3_; have HB := n4_; clear n0_ n1_ n2_ n3_ n4_; (try clear hb); (try clear hb2); (try clear hk); (try clear hi); have hcz93_0 : w92.cell? ⟨gb366, 0, none⟩ = some (.int .i64 a0_0) := (blk_cell BK366.out 0).trans rfl; have hcz93_1 : w92.cell? ⟨gb366, 1, none⟩ = some (.int .i64 a0_1) := (blk_cell BK366.out 1).trans rfl; have hfz93_0 := blk_frozen BK366.out 0; have hfz93_1 := blk_frozen BK366.out 1; have hcz94_0 : w92.cell? ⟨gb367, 0, none⟩ = some (.int .i64 a1_0) := (blk_cell BK367.out 0).trans rfl; have hcz94_1 : w92.cell? ⟨gb367, 1, none⟩ = some (.int .i64 a1_1) := (blk_cell BK367.out 1).trans rfl; have hfz94_0 := blk_frozen BK367.out 0; have hfz94_1 := blk_frozen BK367.out 1; have hcz95_0 : w92.cell? ⟨gb369, 0, none⟩ = some (.int .i64 a3_0) := (blk_cell BK369.out 0).trans rfl; have hcz95_1 : w92.cell? ⟨gb369, 1, none⟩ = some (.int .i64 a3_1) := (blk_cell BK369.out 1).trans rfl; have hfz95_0 := blk_frozen BK369.out 0; have hfz95_1 := blk_frozen BK369.out 1) | (go_at_call 178; (with_reducible refine (impl_isOn.calls a0_0 a0_1 a1_0 a1_1 a3_0 a3_1 false _ A46.out).mono ?_); rintro e w96 ⟨rfl, hb⟩; have n0_ := Aside0.mk (blk_below (g := gb366) (o := .cells #[.int .i64 a0_0, .int .i64 a0_1] 26 (0, 0)) zk hb); have n1_ := Aside0.mk (blk_below (g := gb367) (o := .cells #[.int .i64 a1_0, .int .i64 a1_1] 26 (0, 0)) zk hb); have n2_ := Aside0.mk (blk_below (g := gb368) (o := .cells #[.int .i64 a2_0, .int .i64 a2_1] 26 (0, 0)) zk hb); have n3_ := Aside0.mk (blk_below (g := gb369) (o := .cells #[.int .i64 a3_0, .int .i64 a3_1] 26 (0, 0)) zk hb); have n4_ := Aside0.mk (below_step zb hb); clear BK366; clear BK367; clear BK368; clear BK369; clear HB; have BK366 := n0_; have BK367 := n1_; have BK368 := n2_; have BK369 := n3_; have HB := n4_; clear n0_ n1_ n2_ n3_ n4_; (try clear hb); (try clear hb2); (try clear hk); (try clear hi); have hcz97_0 : w96.cell? ⟨gb368, 0, none⟩ = some (.int .i64 a2_0) := (blk_cell BK368.out 0).trans rfl; have hcz97_1 : w96.cell? ⟨gb368, 1, none⟩ = some (.int .i64 a2_1) := (blk_cell BK368.out 1).trans rfl; have hfz97_0 := blk_frozen BK368.out 0; have hfz97_1 := blk_frozen BK368.out 1; have hcz98_0 : w96.cell? ⟨gb369, 0, none⟩ = some (.int .i64 a3_0) := (blk_cell BK369.out 0).trans rfl; have hcz98_1 : w96.cell? ⟨gb369, 1, none⟩ = some (.int .i64 a3_1) := (blk_cell BK369.out 1).trans rfl; have hfz98_0 := blk_frozen BK369.out 0; have hfz98_1 := blk_frozen BK369.out 1; have hcz99_0 : w96.cell? ⟨gb366, 0, none⟩ = some (.int .i64 a0_0) := (blk_cell BK366.out 0).trans rfl; have hcz99_1 : w96.cell? ⟨gb366, 1, none⟩ = some (.int .i64 a0_1) := (blk_cell BK366.out 1).trans rfl; have hfz99_0 := blk_frozen BK366.out 0; have hfz99_1 := blk_frozen BK366.out 1) | (go_at_call 178; (with_reducible refine (impl_isOn.calls a2_0 a2_1 a3_0 a3_1 a0_0 a0_1 false _ A62.out).mono ?_); rintro e w100 ⟨rfl, hb⟩; have n0_ := Aside0.mk (blk_below (g := gb366) (o := .cells #[.int .i64 a0_0, .int .i64 a0_1] 26 (0, 0)) zk hb); have n1_ := Aside0.mk (blk_below (g := gb367) (o := .cells #[.int .i64 a1_0, .int .i64 a1_1] 26 (0, 0)) zk hb); have n2_ := Aside0.mk (blk_below (g := gb368) (o := .cells #[.int .i64 a2_0, .int .i64 a2_1] 26 (0, 0)) zk hb); have n3_ := Aside0.mk (blk_below (g := gb369) (o := .cells #[.int .i64 a3_0, .int .i64 a3_1] 26 (0, 0)) zk hb); have n4_ := Aside0.mk (below_step zb hb); clear BK366; clear BK367; clear BK368; clear BK369; clear HB; have BK366 := n0_; have BK367 := n1_; have BK368 := n2_; have BK369 := n3_; have HB := n4_; clear n0_ n1_ n2_ n3_ n4_; (try clear hb); (try clear hb2); (try clear hk); (try clear hi); have hcz101_0 : w100.cell? ⟨gb368, 0, none⟩ = some (.int .i64 a2_0) := (blk_cell BK368.out 0).trans rfl; have hcz101_1 : w100.cell? ⟨gb368, 1, none⟩ = some (.int .i64 a2_1) := (blk_cell BK368.out 1).trans rfl; have hfz101_0 := blk_frozen BK368.out 0; have hfz101_1 := blk_frozen BK368.out 1; have hcz102_0 : w100.cell? ⟨gb369, 0, none⟩ = some (.int .i64 a3_0) := (blk_cell BK369.out 0).trans rfl; have hcz102_1 : w100.cell? ⟨gb369, 1, none⟩ = some (.int .i64 a3_1) := (blk_cell BK369.out 1).trans rfl; have hfz102_0 := blk_frozen BK369.out 0; have hfz102_1 := blk_frozen BK369.out 1; have hcz103_0 : w100.cell? ⟨gb367, 0, none⟩ = some (.int .i64 a1_0) := (blk_cell BK367.out 0).trans rfl; have hcz103_1 : w100.cell? ⟨gb367, 1, none⟩ = some (.int .i64 a1_1) := (blk_cell BK367.out 1).trans rfl; have hfz103_0 := blk_frozen BK367.out 0; have hfz103_1 := blk_frozen BK367.out 1) | (go_at_call 178; (with_reducible refine (impl_isOn.calls a2_0 a2_1 a3_0 a3_1 a1_0 a1_1 t381 _ A82.out).mono ?_); rintro e w104 ⟨rfl, hb⟩; have n0_ := Aside0.mk (blk_below (g := gb366) (o := .cells #[.int .i64 a0_0, .int .i64 a0_1] 26 (0, 0)) zk hb); have n1_ := Aside0.mk (blk_below (g := gb367) (o := .cells #[.int .i64 a1_0, .int .i64 a1_1] 26 (0, 0)) zk hb); have n2_ := Aside0.mk (blk_below (g := gb368) (o := .cells #[.int .i64 a2_0, .int .i64 a2_1] 26 (0, 0)) zk hb); have n3_ := Aside0.mk (blk_below (g := gb369) (o := .cells #[.int .i64 a3_0, .int .i64 a3_1] 26 (0, 0)) zk hb); have n4_ := Aside0.mk (below_step zb hb); clear BK366; clear BK367; clear BK368; clear BK369; clear HB; have BK366 := n0_; have BK367 := n1_; have BK368 := n2_; have BK369 := n3_; have HB := n4_; clear n0_ n1_ n2_ n3_ n4_; (try clear hb); (try clear hb2); (try clear hk); (try clear hi)))
       go_ret
       exact ⟨by first | rfl | (simp [errW_none, errW_some] <;> rfl) | (simp [*, errW_none, errW_some] <;> rfl), zb⟩
end Go.Proofs.Ytphpdfcblchpnaa.Q
namespace Go.Proofs.Ytphpdfcblchpnaa.Q
open Go.RowKit Go.Proofs.YtphpdfcblchpnaaW.PrintWords Go.Proofs.YtphpdfcblchpnaaW.PrintLast Go.Proofs.YtphpdfcblchpnaaW.PrintMore
attribute [local go_sem] max2_int min2_int max_two min_two max_three min_three max_four min_four   -- for this text's walks alone
set_option linter.unusedVariables false
set_option linter.unusedSimpArgs false
mutual
def impl_IsPolygon.j0 : Nat → List (S26) → Int → Bool → Option (Bool)
 | 0, _, _, _ => none
 | k + 1, x0, x3, x16 => if x16 = true then (some false) else (impl_IsPolygon.l0 k x0 x3 x0 (x0.length : Int) 0)
def impl_IsPolygon.l0 : Nat → List (S26) → Int → List (S26) → Int → Int → Option (Bool)
 | 0, _, _, _, _, _ => none
 | k + 1, x0, x3, x17, x18, x19 => if x19 < x18 then (if 0 ≤ x19 then (if x19 < (x17.length : Int) then (if x19 ≤ (x0.length : Int) then ((impl_Peg_172.f k (x0.take (x19 : Int).toNat) ((rd_T26 x17 x19).f0) ((rd_T26 x17 x19).f1)).bind fun t390 => (if t390 = true then (impl_IsPolygon.j2 k x0 x3 x19 x17 x18 x19 true ((rd_T26 x17 x19).f0) ((rd_T26 x17 x19).f1)) else ((impl_at.f x0 (wrap64 (x19 - 1))).bind fun bt391 => ((impl_at.f x0 (wrap64 (x19 + 1))).bind fun bt393 => ((impl_turn.f bt391.1 bt391.2 ((rd_T26 x17 x19).f0) ((rd_T26 x17 x19).f1) bt393.1 bt393.2).bind fun t395 => (impl_IsPolygon.j2 k x0 x3 x19 x17 x18 x19 (t395 == 0) ((rd_T26 x17 x19).f0) ((rd_T26 x17 x19).f1))))))) else (none)) else (none)) else (none)) else (some true)
def impl_IsPolygon.j2 : Nat → List (S26) → Int → Int → List (S26) → Int → Int → Bool → Int → Int → Option (Bool)
 | 0, _, _, _, _, _, _, _, _, _ => none
 | k + 1, x0, x3, x4, x17, x18, x19, x41, x386000, x386001 => if x41 = true then (some false) else (impl_IsPolygon.l1 k x0 x3 x4 x17 x18 x19 x4 0 x386000 x386001)
def impl_IsPolygon.l1 : Nat → List (S26) → Int → Int → List (S26) → Int → Int → Int → Int → Int → Int → Option (Bool)
 | 0, _, _, _, _, _, _, _, _, _, _ => none
 | k + 1, x0, x3, x4, x17, x18, x19, x42, x43, x386000, x386001 => if x43 < x42 then (if (wrap64 (x43 + 1)) = x4 then (impl_IsPolygon.j4 k x0 x3 x4 x43 x17 x18 x19 x42 x43 true x386000 x386001) else (if (wrap64 (x4 + 1)) = x3 then (impl_IsPolygon.j4 k x0 x3 x4 x43 x17 x18 x19 x42 x43 (x43 == 0) x386000 x386001) else (impl_IsPolygon.j4 k x0 x3 x4 x43 x17 x18 x19 x42 x43 false x386000 x386001))) else (impl_IsPolygon.l0 k x0 x3 x17 x18 (wrap64 (x19 + 1)))
def impl_IsPolygon.j4 : Nat → List (S26) → Int → Int → Int → List (S26) → Int → Int → Int → Int → Bool → Int → Int → Option (Bool)
 | 0, _, _, _, _, _, _, _, _, _, _, _, _ => none
 | k + 1, x0, x3, x4, x6, x17, x18, x19, x42, x43, x59, x386000, x386001 => if x59 = true then (impl_IsPolygon.l1 k x0 x3 x4 x17 x18 x19 x42 (wrap64 (x43 + 1)) x386000 x386001) else (if 0 ≤ x6 then (if x6 < (x0.length : Int) then (if 0 ≤ (wrap64 (x6 + 1)) then (if (wrap64 (x6 + 1)) < (x0.length : Int) then ((impl_at.f x0 (wrap64 (x4 + 1))).bind fun bt398 => ((impl_meet.f k ((rd_T26 x0 x6).f0) ((rd_T26 x0 x6).f1) ((rd_T26 x0 (wrap64 (x6 + 1))).f0) ((rd_T26 x0 (wrap64 (x6 + 1))).f1) x386000 x386001 bt398.1 bt398.2).bind fun t400 => (if t400 = true then (some false) else (impl_IsPolygon.l1 k x0 x3 x4 x17 x18 x19 x42 (wrap64 (x43 + 1)) x386000 x386001)))) else (none)) else (none)) else (none)) else (none))
end
def impl_IsPolygon.f (k : Nat) (l0 : List (S26)) : Option (Bool) := (impl_within.f (l0.length : Int) 3 10).bind fun t382 => (if t382 = true then ((impl_arePegs.f k l0).bind fun t383 => (impl_IsPolygon.j0 k l0 (l0.length : Int) (!t383))) else (impl_IsPolygon.j0 k l0 (l0.length : Int) true))
def impl_IsPolygon.T7 : Bool × List (List Nat × List Nat) := (true, [([], []), ([], []), ([0, 1], [0, 1]), ([], []), ([2, 3], [2, 3]), ([4, 4], [4]), ([5], [5]), ([5], [5]), ([7, 5], [5, 7]), ([6, 8, 5, 5], [5, 6, 8]), ([5], [5]), ([5], [5]), ([5], [5]), ([12, 5], [5, 12]), ([11, 13, 9, 5], [5, 11, 13]), ([9, 10, 14, 14, 5], [5, 9, 10, 14]), ([15, 5], [5, 15]), ([5, 16], [5, 16])])
def impl_IsPolygon.B7 : List Nat := [0, 0, 3, 0, 15, 31, 63, 63, 191, 511, 63, 63, 63, 4159, 15359, 32767, 65535, 131071]
theorem impl_IsPolygon.tab7 : rtab .any (opsOf Try.f53 7) = impl_IsPolygon.T7 := by kernel_rfl
theorem impl_IsPolygon.bits7 : waitsOk impl_IsPolygon.T7.2 impl_IsPolygon.B7 = true := by kernel_rfl
def impl_IsPolygon.T13 : Bool × List (List Nat × List Nat) := (true, [([], []), ([], []), ([0, 1], [0, 1]), ([2], [2]), ([], []), ([], []), ([5], [5]), ([4, 6], [4, 6]), ([7], [7]), ([], []), ([], []), ([], []), ([11], [11]), ([10, 12], [10, 12]), ([3, 8, 9, 13, 13], [3, 8, 9, 13])])
def impl_IsPolygon.B13 : List Nat := [0, 0, 3, 7, 0, 0, 32, 112, 240, 0, 0, 0, 2048, 7168, 16383]
theorem impl_IsPolygon.tab13 : rtab .any (opsOf Try.f53 13) = impl_IsPolygon.T13 := by kernel_rfl
theorem impl_IsPolygon.bits13 : waitsOk impl_IsPolygon.T13.2 impl_IsPolygon.B13 = true := by kernel_rfl
set_option maxHeartbeats 8000000 in
set_option maxRecDepth 100000 in
theorem impl_IsPolygon.calls (k : Nat) (A0 : Option Addr) (c0 : Nat) (l0 : List (S26)) (r : Bool) (w : World) (hr0 : Kd.C k26 w A0 l0.length l0) (hc0 : l0.length ≤ c0) (h : impl_IsPolygon.f k l0 = some r) :
  Calls Try.prog 53 #[.slice A0 l0.length c0] w fun e w' => e = .returned (.bool r) ∧ Below w.heap.size w w' := by
 have hu26 := Try.underlying26
 have HR0 := Aside0.mk hr0
 have HC0 := Aside0.mk hc0
 clear hr0 hc0
 have HB := Aside0.mk (Below.refl w.heap.size w)
 have H : ((impl_within.f (l0.length : Int) 3 10).bind fun t382 => (if t382 = true then ((impl_arePegs.f k l0).bind fun t383 => (impl_IsPolygon.j0 k l0 (l0.length : Int) (!t383))) else (impl_IsPolygon.j0 k l0 (l0.length : Int) true))) = some r := h
 clear h
 have HC2 := Aside0.mk H
 clear H
 go_enter Try.func53, Try.ntmps53
 go_upto_region 2 with (fail)
 go_cut [16] (fun v16 wc => ∃ (kq : Nat) (x16_1 : Bool), v16 = .bool x16_1 ∧ Aside0 (impl_IsPolygon.j0 kq l0 (l0.length : Int) x16_1 = some r) ∧ Aside0 (kq ≤ k) ∧ Aside0 (Below w.heap.size w wc))
 case first =>
  have H := HC2.out
  clear HC2
  replace H := Option.bind_eq_some_iff.mp H
  obtain ⟨t382, A30, H⟩ := H
  replace H : (if t382 = true then ((impl_arePegs.f k l0).bind fun t383 => (impl_IsPolygon.j0 k l0 (l0.length : Int) (!t383))) else (impl_IsPolygon.j0 k l0 (l0.length : Int) true)) = some r := H
  have A3 := Aside0.mk A30
  clear A30
  by_cases c4 : t382 = true
  ·subst c4
   have H1 : ((impl_arePegs.f k l0).bind fun t383 => (impl_IsPolygon.j0 k l0 (l0.length : Int) (!t383))) = some r := by rw [if_pos rfl] at H; exact H
   clear H
   have H := H1
   clear H1
   replace H := Option.bind_eq_some_iff.mp H
   obtain ⟨t383, A50, H⟩ := H
   replace H : (impl_IsPolygon.j0 k l0 (l0.length : Int) (!t383)) = some r := H
   have A5 := Aside0.mk A50
   clear A50
   have H' := Aside0.mk H
   clear H
   go_wp2_with (first | ((with_reducible refine gate_callee (f := 135) rfl ?_); refine goesL_ (some 10) rfl rfl Try.func135 (by kernel_rfl) rfl #[.int .i64 (l0.length : Int), .int .i64 3, .int .i64 10] rfl zn ?_; (with_reducible refine (impl_within.calls (l0.length : Int) 3 10 true _ A3.out).mono ?_); rintro e w' ⟨rfl, ⟨nd, rfl⟩⟩; refine ⟨_, rfl, ?_⟩) | (go_at_call 171; (with_reducible refine (impl_arePegs.calls k _ _ l0 t383 _ ?side1 ?side2 A5.out).mono ?_); (case side1 => repeat (first | exact (Kd.C_below HR0.out zb) | (with_reducible refine Kd.C_alloc ?_ _) | (with_reducible refine Kd.C_drewN ?_ _) | (with_reducible refine Kd.C_drew ?_))); (case side2 => exact HC0.out); rintro e w6 ⟨rfl, hb⟩; have n0_ := Aside0.mk (below_step zb hb); clear HB; have HB := n0_; clear n0_; (try clear hb); (try clear hb2); (try clear hk); (try clear hi)))
   go_meet
   case rel => exact ⟨_, (!t383), (by first | rfl | (simp; done) | (simp [*]; done)), H', ⟨by first | omega | exact Nat.le_refl _⟩, ⟨zb⟩⟩
  ·replace c4 := Bool.eq_false_iff.mpr c4
   subst c4
   have H1 : (impl_IsPolygon.j0 k l0 (l0.length : Int) true) = some r := by rw [if_neg (show ¬ (false = true) by decide)] at H; exact H
   clear H
   have H := H1
   clear H1
   have H' := Aside0.mk H
   clear H
   go_wp2_with (first | ((with_reducible refine gate_callee (f := 135) rfl ?_); refine goesL_ (some 10) rfl rfl Try.func135 (by kernel_rfl) rfl #[.int .i64 (l0.length : Int), .int .i64 3, .int .i64 10] rfl zn ?_; (with_reducible refine (impl_within.calls (l0.length : Int) 3 10 false _ A3.out).mono ?_); rintro e w' ⟨rfl, ⟨nd, rfl⟩⟩; refine ⟨_, rfl, ?_⟩))
   go_meet
   case rel => exact ⟨_, (true), (by first | rfl | (simp; done) | (simp [*]; done)), H', ⟨by first | omega | exact Nat.le_refl _⟩, ⟨zb⟩⟩
 case rest =>
  clear HC2
  try clear c1
  try clear p2
  try clear c4
  try clear c5
  obtain ⟨kq, x16_1, rfl, HA, HJ1, HB⟩ := hcut
  cases kq with
  | zero => exact absurd HA.out (by simp [impl_IsPolygon.j0])
  | succ kj1 =>
   have H := HA.out
   clear HA
   simp only [impl_IsPolygon.j0] at H
   by_cases c7 : x16_1 = true
   ·subst c7
    have H1 : (some false) = some r := by rw [if_pos rfl] at H; exact H
    clear H
    have H := H1
    clear H1
    obtain rfl := Option.some.inj H
    go_wp2
    go_ret
    exact ⟨by first | rfl | (simp [errW_none, errW_some] <;> rfl) | (simp [*, errW_none, errW_some] <;> rfl), zb⟩
   ·replace c7 := Bool.eq_false_iff.mpr c7
    subst c7
    have H1 : (impl_IsPolygon.l0 kj1 l0 (l0.length : Int) l0 (l0.length : Int) 0) = some r := by rw [if_neg (show ¬ (false = true) by decide)] at H; exact H
    clear H
    have H := H1
    clear H1
    have H' := Aside0.mk H
    clear H
    go_wp2
    go_loopg [19] kj1 (fun kq v19 w' => ∃ (x19_2 : Int), v19 = .int .i64 x19_2 ∧ Aside0 (impl_IsPolygon.l0 kq l0 (l0.length : Int) l0 (l0.length : Int) x19_2 = some r) ∧ Aside0 (kq ≤ kj1) ∧ Aside0 (Below w.heap.size w w'))
    case atStart => exact ⟨(0), (by first | rfl | (simp; done) | (simp [*]; done)), H', ⟨Nat.le_refl _⟩, ⟨zb⟩⟩
    case round =>
     clear H'
     try clear c1
     try clear p2
     try clear c4
     try clear c5
     try clear c7
     try clear p2
     obtain ⟨x19_2, rfl, HA, HK2, HB⟩ := hrel
     cases gk with
     | zero => exact absurd HA.out (by simp [impl_IsPolygon.l0])
     | succ k2 =>
      have H := HA.out
      clear HA
      simp only [impl_IsPolygon.l0] at H
      by_cases c8 : x19_2 < (l0.length : Int)
      ·rw [if_pos c8] at H
       have c8b0 : decide (x19_2 < (l0.length : Int)) = true := decide_eq_true c8
       clear c8
       by_cases c9 : 0 ≤ x19_2
       ·rw [if_pos c9] at H
        have c9b0 : decide (0 ≤ x19_2) = true := decide_eq_true c9
        clear c9
        by_cases c10 : x19_2 < (l0.length : Int)
        ·rw [if_pos c10] at H
         have c10b0 : decide (x19_2 < (l0.length : Int)) = true := decide_eq_true c10
         clear c10
         have HC11 := Aside0.mk H
         clear H
         have p384 : 0 ≤ (x19_2 : Int) := of_decide_eq_true (by first | (with_reducible assumption) | assumption)
         have q384 : x19_2 < (l0.length : Int) := of_decide_eq_true (by first | (with_reducible assumption) | assumption)
         obtain ⟨ad384, e384, hx384_0, hx384_1⟩ := at_T26 HR0.out x19_2 p384 q384
         cases e384
         replace hx384_0 := zc HB hx384_0
         replace hx384_1 := zc HB hx384_1
         replace p384 := eq_true p384
         replace q384 := eq_true q384
         go_upto_region 7 with (first | ((with_reducible refine gate_dst (N := 5) rfl ?_); refine box_event ?hg (N := 5) ?hd (cs := #[.int .i64 0, .int .i64 0]) (t := 26) ?hr ?_; (case hd => rfl); (case hg => rfl); (case hr => first | (go_simp; done) | (go_simp; rfl)); intro gb385 hg w12 hbox hb; have n0_ := Aside0.mk (below_step zb hb); have n1_ := Aside0.mk (hbox); have n2_ := Aside0.mk ((by rw [hg]; exact (below_size zb) : w.heap.size ≤ gb385)); have n3_ := Aside0.mk ((by rw [hg]; exact (below_size zb) : w.heap.size ≤ gb385)); clear HB; have HB := n0_; have BK385 := n1_; have GW385 := n2_; have GE385 := n3_; clear n0_ n1_ n2_ n3_; clear hb hbox hg; have hcz13_0 : w12.cell? ⟨gb385, 0, none⟩ = some (.int .i64 0) := (blk_cell BK385.out 0).trans rfl; have hcz13_1 : w12.cell? ⟨gb385, 1, none⟩ = some (.int .i64 0) := (blk_cell BK385.out 1).trans rfl; have hfz13_0 := blk_frozen BK385.out 0; have hfz13_1 := blk_frozen BK385.out 1))
         (try simp only [Act.put, List.setIfInBounds_toArray, List.set_cons_zero, List.set_cons_succ])
         go_cut [41] (fun v41 wc => ∃ (kq : Nat) (x41_10 : Bool), v41 = .bool x41_10 ∧ Aside0 (impl_IsPolygon.j2 kq l0 (l0.length : Int) x19_2 l0 (l0.length : Int) x19_2 x41_10 ((rd_T26 l0 x19_2).f0) ((rd_T26 l0 x19_2).f1) = some r) ∧ Aside0 (kq ≤ k2) ∧ Aside0 (wc.heap[gb385]? = some (.cells #[.int .i64 ((rd_T26 l0 x19_2).f0), .int .i64 ((rd_T26 l0 x19_2).f1)] 26 (0, 0))) ∧ Aside0 (Below w.heap.size w wc))
         case first =>
          have H := HC11.out
          clear HC11
          have c14b0 := eq_true (of_decide_eq_true (by first | (with_reducible assumption) | assumption) : 0 ≤ x19_2)
          by_cases c15 : x19_2 ≤ (l0.length : Int)
          ·rw [if_pos c15] at H
           have c15b0 := eq_true c15
           have c15b1 : decide (x19_2 ≤ (l0.length : Int)) = true := decide_eq_true c15
           clear c15
           obtain ⟨y386, hy386⟩ : ∃ y_ : List (S26), y_ = (l0.take (x19_2 : Int).toNat) := ⟨_, rfl⟩
           replace H : ((impl_Peg_172.f k2 y386 ((rd_T26 l0 x19_2).f0) ((rd_T26 l0 x19_2).f1)).bind fun t390 => (if t390 = true then (impl_IsPolygon.j2 k2 l0 (l0.length : Int) x19_2 l0 (l0.length : Int) x19_2 true ((rd_T26 l0 x19_2).f0) ((rd_T26 l0 x19_2).f1)) else ((impl_at.f l0 (wrap64 (x19_2 - 1))).bind fun bt391 => ((impl_at.f l0 (wrap64 (x19_2 + 1))).bind fun bt393 => ((impl_turn.f bt391.1 bt391.2 ((rd_T26 l0 x19_2).f0) ((rd_T26 l0 x19_2).f1) bt393.1 bt393.2).bind fun t395 => (impl_IsPolygon.j2 k2 l0 (l0.length : Int) x19_2 l0 (l0.length : Int) x19_2 (t395 == 0) ((rd_T26 l0 x19_2).f0) ((rd_T26 l0 x19_2).f1))))))) = some r := by first | (rw [hy386]; with_reducible exact H) | (have H2_ := (Option.bind_some _ _).symm.trans H; rw [hy386]; with_reducible exact H2_) | (have H2_ := (Option.bind_some _ _).symm.trans H; with_reducible exact H2_) | with_reducible exact H | (rw [hy386]; exact H) | exact H
           have Ny386 := Aside0.mk hy386
           clear hy386
           replace H := Option.bind_eq_some_iff.mp H
           obtain ⟨t390, A160, H⟩ := H
           replace H : (if t390 = true then (impl_IsPolygon.j2 k2 l0 (l0.length : Int) x19_2 l0 (l0.length : Int) x19_2 true ((rd_T26 l0 x19_2).f0) ((rd_T26 l0 x19_2).f1)) else ((impl_at.f l0 (wrap64 (x19_2 - 1))).bind fun bt391 => ((impl_at.f l0 (wrap64 (x19_2 + 1))).bind fun bt393 => ((impl_turn.f bt391.1 bt391.2 ((rd_T26 l0 x19_2).f0) ((rd_T26 l0 x19_2).f1) bt393.1 bt393.2).bind fun t395 => (impl_IsPolygon.j2 k2 l0 (l0.length : Int) x19_2 l0 (l0.length : Int) x19_2 (t395 == 0) ((rd_T26 l0 x19_2).f0) ((rd_T26 l0 x19_2).f1)))))) = some r := H
           have A16 := Aside0.mk A160
           clear A160
           by_cases c17 : t390 = true
           ·subst c17
            have H1 : (impl_IsPolygon.j2 k2 l0 (l0.length : Int) x19_2 l0 (l0.length : Int) x19_2 true ((rd_T26 l0 x19_2).f0) ((rd_T26 l0 x19_2).f1)) = some r := by rw [if_pos rfl] at H; exact H
            clear H
            have H := H1
            clear H1
            have H' := Aside0.mk H
            clear H
            try go_wp2
            have n0_ : Aside0 (((w12.setCell ⟨gb385, 0, none⟩ (.int .i64 ((rd_T26 l0 x19_2).f0))).setCell ⟨gb385, 1, none⟩ (.int .i64 ((rd_T26 l0 x19_2).f1))).heap[gb385]? = some (.cells #[.int .i64 ((rd_T26 l0 x19_2).f0), .int .i64 ((rd_T26 l0 x19_2).f1)] 26 (0, 0))) := ⟨by (with_reducible repeat (first | refine blk_drewN ?_ _ | refine blk_drew ?_ | refine blk_alloc ?_ _)); refine blk_put (cs := #[.int .i64 ((rd_T26 l0 x19_2).f0), .int .i64 0]) ?_ 1 _ rfl; (with_reducible repeat (first | refine blk_drewN ?_ _ | refine blk_drew ?_ | refine blk_alloc ?_ _)); refine blk_put (cs := #[.int .i64 0, .int .i64 0]) ?_ 0 _ rfl; (with_reducible repeat (first | refine blk_drewN ?_ _ | refine blk_drew ?_ | refine blk_alloc ?_ _)); exact BK385.out⟩
            have n1_ : Aside0 (Below w.heap.size w ((w12.setCell ⟨gb385, 0, none⟩ (.int .i64 ((rd_T26 l0 x19_2).f0))).setCell ⟨gb385, 1, none⟩ (.int .i64 ((rd_T26 l0 x19_2).f1)))) := ⟨zb⟩
            (try clear BK385)
            (try clear HB)
            generalize ((w12.setCell ⟨gb385, 0, none⟩ (.int .i64 ((rd_T26 l0 x19_2).f0))).setCell ⟨gb385, 1, none⟩ (.int .i64 ((rd_T26 l0 x19_2).f1))) = w18 at n0_ n1_ ⊢
            have BK385 := n0_
            have HB := n1_
            clear n0_ n1_
            have n0_ := Aside0.mk (blk_drew BK385.out)
            have n1_ := Aside0.mk (below_drew1 HB.out)
            clear BK385
            clear HB
            have BK385 := n0_
            have HB := n1_
            clear n0_ n1_
            have q20 : (x19_2 : Int) ≤ ((l0.length : Int) : Int) := of_decide_eq_true (by first | (with_reducible assumption) | assumption)
            obtain ⟨i020, hi020, _, hsz20, _⟩ := info_parts info26
            have hroom20 : l0.length ≤ c0 := HC0.out
            have hC20 : Kd.C k26 _ (some ad384) l0.length l0 := HR0.out
            have hcut20 := cut_to (P := Try.prog) 24 26 .i64 Try.underlying24 hi020 (some ad384) l0.length c0 x19_2 (of_decide_eq_true (by first | (with_reducible assumption) | assumption)) q20 hroom20
            have hr20 := Kd.C_take (m := (x19_2 : Int).toNat) hC20 (by omega)
            have hy20 : y386.length = (x19_2 : Int).toNat := (by rw [Ny386.out, List.length_take]; omega)
            rw [← Ny386.out] at hr20
            rw [← hy20] at hcut20
            have HR389 := Aside0.mk hr20
            have HC389 := Aside0.mk (show y386.length ≤ c0 from by omega)
            clear hr20 hC20 hroom20 hi020 hsz20
            have KY20 := Aside0.mk hy20
            clear hy20
            replace q20 := eq_true q20
            refine start_ (n := 18) (S := fun w' => w'.cell? ⟨gb385, 0, none⟩ = some (.int .i64 ((rd_T26 l0 x19_2).f0)) ∧ w'.cell? ⟨gb385, 1, none⟩ = some (.int .i64 ((rd_T26 l0 x19_2).f1))) (ds := []) (zl 18 0) (by kernel_rfl) rfl rfl ⟨(blk_cell BK385.out 0).trans rfl, (blk_cell BK385.out 1).trans rfl⟩ (fun hHeld => ?_); refine with_tabW impl_IsPolygon.tab7 impl_IsPolygon.bits7 (fun HT_ HW_ => ?_)
            generalize w18.drew = w19 at BK385 HB HR389 hHeld ⊢
            refine zp 0 24 18 1 HT_ ?_
            refine zp 1 25 18 3 HT_ ?_
            refine zp 2 26 18 7 HT_ ?_
            refine take_ (i := 3) (N := some 27) (v := ?_) (a' := ?_) (zl 18 15) rfl rfl (take_ofW HT_.out HW_.out (by kernel_rfl)) (fun _ _ _ h => h) (Or.inl ⟨by rfl, ?_⟩) hHeld ?_ ?_
            rotate_left
            ·rintro w' ⟨s0, s1⟩
             go_simp
             with_reducible rfl
            rotate_left
            ·exact zs
            refine one_ (i := 4) (N := some 28) (zl 18 31) rfl rfl (one_of HT_.out (by kernel_rfl)) (by decide) (fun K hK => ?_)
            refine goes_ Try.func172 (by kernel_rfl) rfl #[.slice (some ad384) y386.length c0, .agg #[.int .i64 ((rd_T26 l0 x19_2).f0), .int .i64 ((rd_T26 l0 x19_2).f1)]] (by rfl) rfl rfl zn ?_
            with_reducible refine (impl_Peg_172.calls k2 _ _ y386 ((rd_T26 l0 x19_2).f0) ((rd_T26 l0 x19_2).f1) true _ ?side1 ?side2 A16.out).mono ?_
            (case side1 => repeat (first | exact (Kd.C_below HR389.out HB.out) | (with_reducible refine Kd.C_alloc ?_ _) | (with_reducible refine Kd.C_drewN ?_ _) | (with_reducible refine Kd.C_drew ?_)))
            (case side2 => exact HC389.out)
            rintro e w21 ⟨rfl, hb⟩
            refine ⟨_, rfl, ?_⟩
            have n0_ := Aside0.mk (blk_below (g := gb385) (o := .cells #[.int .i64 ((rd_T26 l0 x19_2).f0), .int .i64 ((rd_T26 l0 x19_2).f1)] 26 (0, 0)) zk hb)
            have n1_ := Aside0.mk (below_step zb hb)
            clear BK385
            clear HB
            have BK385 := n0_
            have HB := n1_
            clear n0_ n1_
            (try clear hb)
            (try clear hb2)
            (try clear hk)
            (try clear hi)
            refine hK.out _ _ ⟨(blk_cell BK385.out 0).trans rfl, (blk_cell BK385.out 1).trans rfl⟩ (fun hHeld => ?_)
            clear hK K
            refine norm_ (a' := ?_) ?_ ?_
            rotate_left
            ·show Act.put _ (some 28) _ = _
             exact zs
            refine zp 5 29 18 63 HT_ ?_
            refine pure_ (i := 6) (N := some 30) (v := undef) (a' := ?_) (zl 18 127) rfl rfl (any_of HT_.out (by kernel_rfl)) (fun _ _ _ h => h) (Or.inr ⟨by rfl, rfl⟩) ?_ ?_
            rotate_left
            ·exact zs
            refine pure_ (i := 7) (N := some 31) (v := undef) (a' := ?_) (zl 18 255) rfl rfl (any_of HT_.out (by kernel_rfl)) (fun _ _ _ h => h) (Or.inr ⟨by rfl, rfl⟩) ?_ ?_
            rotate_left
            ·exact zs
            refine pure_ (i := 8) (N := some 32) (v := undef) (a' := ?_) (zl 18 511) rfl rfl (any_of HT_.out (by kernel_rfl)) (fun _ _ _ h => h) (Or.inr ⟨by rfl, rfl⟩) ?_ ?_
            rotate_left
            ·exact zs
            refine pure_ (i := 9) (N := some 33) (v := undef) (a' := ?_) (zl 18 1023) rfl rfl (any_of HT_.out (by kernel_rfl)) (fun _ _ _ h => h) (Or.inr ⟨by rfl, rfl⟩) ?_ ?_
            rotate_left
            ·exact zs
            refine pure_ (i := 10) (N := some 34) (v := undef) (a' := ?_) (zl 18 2047) rfl rfl (any_of HT_.out (by kernel_rfl)) (fun _ _ _ h => h) (Or.inr ⟨by rfl, rfl⟩) ?_ ?_
            rotate_left
            ·exact zs
            refine pure_ (i := 11) (N := some 35) (v := undef) (a' := ?_) (zl 18 4095) rfl rfl (any_of HT_.out (by kernel_rfl)) (fun _ _ _ h => h) (Or.inr ⟨by rfl, rfl⟩) ?_ ?_
            rotate_left
            ·exact zs
            refine pure_ (i := 12) (N := some 36) (v := undef) (a' := ?_) (zl 18 8191) rfl rfl (any_of HT_.out (by kernel_rfl)) (fun _ _ _ h => h) (Or.inr ⟨by rfl, rfl⟩) ?_ ?_
            rotate_left
            ·exact zs
            refine pure_ (i := 13) (N := some 37) (v := undef) (a' := ?_) (zl 18 16383) rfl rfl (any_of HT_.out (by kernel_rfl)) (fun _ _ _ h => h) (Or.inr ⟨by rfl, rfl⟩) ?_ ?_
            rotate_left
            ·exact zs
            refine pure_ (i := 14) (N := some 38) (v := undef) (a' := ?_) (zl 18 32767) rfl rfl (any_of HT_.out (by kernel_rfl)) (fun _ _ _ h => h) (Or.inr ⟨by rfl, rfl⟩) ?_ ?_
            rotate_left
            ·exact zs
            refine pure_ (i := 15) (N := some 39) (v := undef) (a' := ?_) (zl 18 65535) rfl rfl (any_of HT_.out (by kernel_rfl)) (fun _ _ _ h => h) (Or.inr ⟨by rfl, rfl⟩) ?_ ?_
            rotate_left
            ·exact zs
            refine pure_ (i := 16) (N := some 40) (v := undef) (a' := ?_) (zl 18 131071) rfl rfl (any_of HT_.out (by kernel_rfl)) (fun _ _ _ h => h) (Or.inr ⟨by rfl, rfl⟩) ?_ ?_
            rotate_left
            ·exact zs
            refine zp 17 41 18 262143 HT_ ?_
            refine done_ (done_of HT_.out (by kernel_rfl)) ?_
            try go_wp2
            go_meet
            case rel => exact ⟨_, (true), (by first | rfl | (simp; done) | (simp [*]; done)), H', ⟨by have := HJ1.out; have := HK2.out; first | omega | exact Nat.le_refl _⟩, ⟨zk⟩, ⟨zb⟩⟩
           ·replace c17 := Bool.eq_false_iff.mpr c17
            subst c17
            have H1 : ((impl_at.f l0 (wrap64 (x19_2 - 1))).bind fun bt391 => ((impl_at.f l0 (wrap64 (x19_2 + 1))).bind fun bt393 => ((impl_turn.f bt391.1 bt391.2 ((rd_T26 l0 x19_2).f0) ((rd_T26 l0 x19_2).f1) bt393.1 bt393.2).bind fun t395 => (impl_IsPolygon.j2 k2 l0 (l0.length : Int) x19_2 l0 (l0.length : Int) x19_2 (t395 == 0) ((rd_T26 l0 x19_2).f0) ((rd_T26 l0 x19_2).f1))))) = some r := by rw [if_neg (show ¬ (false = true) by decide)] at H; exact H
            clear H
            have H := H1
            clear H1
            replace H := Option.bind_eq_some_iff.mp H
            obtain ⟨⟨t391, t392⟩, A220, H⟩ := H
            replace H : ((impl_at.f l0 (wrap64 (x19_2 + 1))).bind fun bt393 => ((impl_turn.f t391 t392 ((rd_T26 l0 x19_2).f0) ((rd_T26 l0 x19_2).f1) bt393.1 bt393.2).bind fun t395 => (impl_IsPolygon.j2 k2 l0 (l0.length : Int) x19_2 l0 (l0.length : Int) x19_2 (t395 == 0) ((rd_T26 l0 x19_2).f0) ((rd_T26 l0 x19_2).f1)))) = some r := H
            have A22 := Aside0.mk A220
            clear A220
            replace H := Option.bind_eq_some_iff.mp H
            obtain ⟨⟨t393, t394⟩, A230, H⟩ := H
            replace H : ((impl_turn.f t391 t392 ((rd_T26 l0 x19_2).f0) ((rd_T26 l0 x19_2).f1) t393 t394).bind fun t395 => (impl_IsPolygon.j2 k2 l0 (l0.length : Int) x19_2 l0 (l0.length : Int) x19_2 (t395 == 0) ((rd_T26 l0 x19_2).f0) ((rd_T26 l0 x19_2).f1))) = some r := H
            have A23 := Aside0.mk A230
            clear A230
            replace H := Option.bind_eq_some_iff.mp H
            obtain ⟨t395, A240, H⟩ := H
            replace H : (impl_IsPolygon.j2 k2 l0 (l0.length : Int) x19_2 l0 (l0.length : Int) x19_2 (t395 == 0) ((rd_T26 l0 x19_2).f0) ((rd_T26 l0 x19_2).f1)) = some r := H
            have A24 := Aside0.mk A240
            clear A240
            have H' := Aside0.mk H
            clear H
            try go_wp2
            have n0_ : Aside0 (((w12.setCell ⟨gb385, 0, none⟩ (.int .i64 ((rd_T26 l0 x19_2).f0))).setCell ⟨gb385, 1, none⟩ (.int .i64 ((rd_T26 l0 x19_2).f1))).heap[gb385]? = some (.cells #[.int .i64 ((rd_T26 l0 x19_2).f0), .int .i64 ((rd_T26 l0 x19_2).f1)] 26 (0, 0))) := ⟨by (with_reducible repeat (first | refine blk_drewN ?_ _ | refine blk_drew ?_ | refine blk_alloc ?_ _)); refine blk_put (cs := #[.int .i64 ((rd_T26 l0 x19_2).f0), .int .i64 0]) ?_ 1 _ rfl; (with_reducible repeat (first | refine blk_drewN ?_ _ | refine blk_drew ?_ | refine blk_alloc ?_ _)); refine blk_put (cs := #[.int .i64 0, .int .i64 0]) ?_ 0 _ rfl; (with_reducible repeat (first | refine blk_drewN ?_ _ | refine blk_drew ?_ | refine blk_alloc ?_ _)); exact BK385.out⟩
            have n1_ : Aside0 (Below w.heap.size w ((w12.setCell ⟨gb385, 0, none⟩ (.int .i64 ((rd_T26 l0 x19_2).f0))).setCell ⟨gb385, 1, none⟩ (.int .i64 ((rd_T26 l0 x19_2).f1)))) := ⟨zb⟩
            (try clear BK385)
            (try clear HB)
            generalize ((w12.setCell ⟨gb385, 0, none⟩ (.int .i64 ((rd_T26 l0 x19_2).f0))).setCell ⟨gb385, 1, none⟩ (.int .i64 ((rd_T26 l0 x19_2).f1))) = w25 at n0_ n1_ ⊢
            have BK385 := n0_
            have HB := n1_
            clear n0_ n1_
            have n0_ := Aside0.mk (blk_drew BK385.out)
            have n1_ := Aside0.mk (below_drew1 HB.out)
            clear BK385
            clear HB
            have BK385 := n0_
            have HB := n1_
            clear n0_ n1_
            have q27 : (x19_2 : Int) ≤ ((l0.length : Int) : Int) := of_decide_eq_true (by first | (with_reducible assumption) | assumption)
            obtain ⟨i027, hi027, _, hsz27, _⟩ := info_parts info26
            have hroom27 : l0.length ≤ c0 := HC0.out
            have hC27 : Kd.C k26 _ (some ad384) l0.length l0 := HR0.out
            have hcut27 := cut_to (P := Try.prog) 24 26 .i64 Try.underlying24 hi027 (some ad384) l0.length c0 x19_2 (of_decide_eq_true (by first | (with_reducible assumption) | assumption)) q27 hroom27
            have hr27 := Kd.C_take (m := (x19_2 : Int).toNat) hC27 (by omega)
            have hy27 : y386.length = (x19_2 : Int).toNat := (by rw [Ny386.out, List.length_take]; omega)
            rw [← Ny386.out] at hr27
            rw [← hy27] at hcut27
            have HR389 := Aside0.mk hr27
            have HC389 := Aside0.mk (show y386.length ≤ c0 from by omega)
            clear hr27 hC27 hroom27 hi027 hsz27
            have KY27 := Aside0.mk hy27
            clear hy27
            replace q27 := eq_true q27
            refine start_ (n := 18) (S := fun w' => w'.cell? ⟨gb385, 0, none⟩ = some (.int .i64 ((rd_T26 l0 x19_2).f0)) ∧ w'.cell? ⟨gb385, 1, none⟩ = some (.int .i64 ((rd_T26 l0 x19_2).f1))) (ds := []) (zl 18 0) (by kernel_rfl) rfl rfl ⟨(blk_cell BK385.out 0).trans rfl, (blk_cell BK385.out 1).trans rfl⟩ (fun hHeld => ?_); refine with_tabW impl_IsPolygon.tab7 impl_IsPolygon.bits7 (fun HT_ HW_ => ?_)
            generalize w25.drew = w26 at BK385 HB HR389 hHeld ⊢
            refine zp 0 24 18 1 HT_ ?_
            refine zp 1 25 18 3 HT_ ?_
            refine zp 2 26 18 7 HT_ ?_
            refine take_ (i := 3) (N := some 27) (v := ?_) (a' := ?_) (zl 18 15) rfl rfl (take_ofW HT_.out HW_.out (by kernel_rfl)) (fun _ _ _ h => h) (Or.inl ⟨by rfl, ?_⟩) hHeld ?_ ?_
            rotate_left
            ·rintro w' ⟨s0, s1⟩
             go_simp
             with_reducible rfl
            rotate_left
            ·exact zs
            refine one_ (i := 4) (N := some 28) (zl 18 31) rfl rfl (one_of HT_.out (by kernel_rfl)) (by decide) (fun K hK => ?_)
            refine goes_ Try.func172 (by kernel_rfl) rfl #[.slice (some ad384) y386.length c0, .agg #[.int .i64 ((rd_T26 l0 x19_2).f0), .int .i64 ((rd_T26 l0 x19_2).f1)]] (by rfl) rfl rfl zn ?_
            with_reducible refine (impl_Peg_172.calls k2 _ _ y386 ((rd_T26 l0 x19_2).f0) ((rd_T26 l0 x19_2).f1) false _ ?side1 ?side2 A16.out).mono ?_
            (case side1 => repeat (first | exact (Kd.C_below HR389.out HB.out) | (with_reducible refine Kd.C_alloc ?_ _) | (with_reducible refine Kd.C_drewN ?_ _) | (with_reducible refine Kd.C_drew ?_)))
            (case side2 => exact HC389.out)
            rintro e w28 ⟨rfl, hb⟩
            refine ⟨_, rfl, ?_⟩
            have n0_ := Aside0.mk (blk_below (g := gb385) (o := .cells #[.int .i64 ((rd_T26 l0 x19_2).f0), .int .i64 ((rd_T26 l0 x19_2).f1)] 26 (0, 0)) zk hb)
            have n1_ := Aside0.mk (below_step zb hb)
            clear BK385
            clear HB
            have BK385 := n0_
            have HB := n1_
            clear n0_ n1_
            (try clear hb)
            (try clear hb2)
            (try clear hk)
            (try clear hi)
            refine hK.out _ _ ⟨(blk_cell BK385.out 0).trans rfl, (blk_cell BK385.out 1).trans rfl⟩ (fun hHeld => ?_)
            clear hK K
            refine norm_ (a' := ?_) ?_ ?_
            rotate_left
            ·show Act.put _ (some 28) _ = _
             exact zs
            refine zp 5 29 18 63 HT_ ?_
            refine zp 6 30 18 127 HT_ ?_
            refine zp 7 31 18 255 HT_ ?_
            refine zp 8 32 18 511 HT_ ?_
            refine zp 11 35 18 2559 HT_ ?_
            refine zp 12 36 18 6655 HT_ ?_
            refine zp 13 37 18 14847 HT_ ?_
            refine take_ (i := 10) (N := some 34) (v := ?_) (a' := ?_) (zl 18 15871) rfl rfl (take_ofW HT_.out HW_.out (by kernel_rfl)) (fun _ _ _ h => h) (Or.inl ⟨by rfl, ?_⟩) hHeld ?_ ?_
            rotate_left
            ·rintro w' ⟨s0, s1⟩
             go_simp
             with_reducible rfl
            rotate_left
            ·exact zs
            refine one_ (i := 9) (N := some 33) (zl 18 16383) rfl rfl (one_of HT_.out (by kernel_rfl)) (by decide) (fun K hK => ?_)
            refine goes_ Try.func174 (by kernel_rfl) rfl #[.slice (some ad384) l0.length c0, .int .i64 (wrap64 (x19_2 - 1))] (by rfl) rfl rfl zn ?_
            with_reducible refine (impl_at.calls _ _ l0 (wrap64 (x19_2 - 1)) t391 t392 _ ?side1 ?side2 A22.out).mono ?_
            (case side1 => repeat (first | exact (Kd.C_below HR0.out HB.out) | (with_reducible refine Kd.C_alloc ?_ _) | (with_reducible refine Kd.C_drewN ?_ _) | (with_reducible refine Kd.C_drew ?_)))
            (case side2 => exact HC0.out)
            rintro e w29 ⟨rfl, hb⟩
            refine ⟨_, rfl, ?_⟩
            have n0_ := Aside0.mk (blk_below (g := gb385) (o := .cells #[.int .i64 ((rd_T26 l0 x19_2).f0), .int .i64 ((rd_T26 l0 x19_2).f1)] 26 (0, 0)) zk hb)
            have n1_ := Aside0.mk (below_step zb hb)
            clear BK385
            clear HB
            have BK385 := n0_
            have HB := n1_
            clear n0_ n1_
            (try clear hb)
            (try clear hb2)
            (try clear hk)
            (try clear hi)
            refine hK.out _ _ ⟨(blk_cell BK385.out 0).trans rfl, (blk_cell BK385.out 1).trans rfl⟩ (fun hHeld => ?_)
            clear hK K
            refine norm_ (a' := ?_) ?_ ?_
            rotate_left
            ·show Act.put _ (some 33) _ = _
             exact zs
            refine one_ (i := 14) (N := some 38) (zl 18 32767) rfl rfl (one_of HT_.out (by kernel_rfl)) (by decide) (fun K hK => ?_)
            refine goes_ Try.func174 (by kernel_rfl) rfl #[.slice (some ad384) l0.length c0, .int .i64 (wrap64 (x19_2 + 1))] (by rfl) rfl rfl zn ?_
            with_reducible refine (impl_at.calls _ _ l0 (wrap64 (x19_2 + 1)) t393 t394 _ ?side1 ?side2 A23.out).mono ?_
            (case side1 => repeat (first | exact (Kd.C_below HR0.out HB.out) | (with_reducible refine Kd.C_alloc ?_ _) | (with_reducible refine Kd.C_drewN ?_ _) | (with_reducible refine Kd.C_drew ?_)))
            (case side2 => exact HC0.out)
            rintro e w30 ⟨rfl, hb⟩
            refine ⟨_, rfl, ?_⟩
            have n0_ := Aside0.mk (blk_below (g := gb385) (o := .cells #[.int .i64 ((rd_T26 l0 x19_2).f0), .int .i64 ((rd_T26 l0 x19_2).f1)] 26 (0, 0)) zk hb)
            have n1_ := Aside0.mk (below_step zb hb)
            clear BK385
            clear HB
            have BK385 := n0_
            have HB := n1_
            clear n0_ n1_
            (try clear hb)
            (try clear hb2)
            (try clear hk)
            (try clear hi)
            refine hK.out _ _ ⟨(blk_cell BK385.out 0).trans rfl, (blk_cell BK385.out 1).trans rfl⟩ (fun hHeld => ?_)
            clear hK K
            refine norm_ (a' := ?_) ?_ ?_
            rotate_left
            ·show Act.put _ (some 38) _ = _
             exact zs
            refine one_ (i := 15) (N := some 39) (zl 18 65535) rfl rfl (one_of HT_.out (by kernel_rfl)) (by decide) (fun K hK => ?_)
            refine goes_ Try.func173 (by kernel_rfl) rfl #[.agg #[.int .i64 t391, .int .i64 t392], .agg #[.int .i64 ((rd_T26 l0 x19_2).f0), .int .i64 ((rd_T26 l0 x19_2).f1)], .agg #[.int .i64 t393, .int .i64 t394]] (by rfl) rfl rfl zn ?_
            with_reducible refine (impl_turn.calls t391 t392 ((rd_T26 l0 x19_2).f0) ((rd_T26 l0 x19_2).f1) t393 t394 t395 _ A24.out).mono ?_
            rintro e w31 ⟨rfl, hb⟩
            refine ⟨_, rfl, ?_⟩
            have n0_ := Aside0.mk (blk_below (g := gb385) (o := .cells #[.int .i64 ((rd_T26 l0 x19_2).f0), .int .i64 ((rd_T26 l0 x19_2).f1)] 26 (0, 0)) zk hb)
            have n1_ := Aside0.mk (below_step zb hb)
            clear BK385
            clear HB
            have BK385 := n0_
            have HB := n1_
            clear n0_ n1_
            (try clear hb)
            (try clear hb2)
            (try clear hk)
            (try clear hi)
            refine hK.out _ _ ⟨(blk_cell BK385.out 0).trans rfl, (blk_cell BK385.out 1).trans rfl⟩ (fun hHeld => ?_)
            clear hK K
            refine norm_ (a' := ?_) ?_ ?_
            rotate_left
            ·show Act.put _ (some 39) _ = _
             exact zs
            refine zp 16 40 18 131071 HT_ ?_
            refine zp 17 41 18 262143 HT_ ?_
            refine done_ (done_of HT_.out (by kernel_rfl)) ?_
            try go_wp2
            go_meet
            case rel => exact ⟨_, ((t395 == 0)), (by first | rfl | (simp; done) | (simp [*]; done)), H', ⟨by have := HJ1.out; have := HK2.out; first | omega | exact Nat.le_refl _⟩, ⟨zk⟩, ⟨zb⟩⟩
          ·rw [if_neg c15] at H
           exact absurd H (by simp)
         case rest =>
          clear HC11
          try clear c1
          try clear p2
          try clear q2
          try clear p3
          try clear q3
          try clear hx3
          try clear c4
          try clear c5
          try clear p6
          try clear c7
          try clear c8
          try clear c8b0
          try clear c9
          try clear c9b0
          try clear c10
          try clear c10b0
          try clear c13
          try clear c14
          try clear c14b0
          try clear c15
          try clear c15b0
          try clear c15b1
          try clear c17
          try clear q20
          try clear q27
          try clear hcz13_0
          try clear hcz13_1
          try clear hfz13_0
          try clear hfz13_1
          try clear hx384_0
          try clear hx384_1
          try clear p2
          try clear p384
          try clear q20
          try clear q27
          try clear q384
          obtain ⟨kq, x41_10, rfl, HA, HJ10, BK385, HB⟩ := hcut
          cases kq with
          | zero => exact absurd HA.out (by simp [impl_IsPolygon.j2])
          | succ kj10 =>
           have H := HA.out
           clear HA
           simp only [impl_IsPolygon.j2] at H
           by_cases c32 : x41_10 = true
           ·subst c32
            have H1 : (some false) = some r := by rw [if_pos rfl] at H; exact H
            clear H
            have H := H1
            clear H1
            obtain rfl := Option.some.inj H
            go_wp2
            go_ret
            exact ⟨by first | rfl | (simp [errW_none, errW_some] <;> rfl) | (simp [*, errW_none, errW_some] <;> rfl), zb⟩
           ·replace c32 := Bool.eq_false_iff.mpr c32
            subst c32
            have H1 : (impl_IsPolygon.l1 kj10 l0 (l0.length : Int) x19_2 l0 (l0.length : Int) x19_2 x19_2 0 ((rd_T26 l0 x19_2).f0) ((rd_T26 l0 x19_2).f1)) = some r := by rw [if_neg (show ¬ (false = true) by decide)] at H; exact H
            clear H
            have H := H1
            clear H1
            have H' := Aside0.mk H
            clear H
            go_wp2
            go_loopg [43] kj10 (fun kq v43 w' => ∃ (x43_4 : Int), v43 = .int .i64 x43_4 ∧ Aside0 (impl_IsPolygon.l1 kq l0 (l0.length : Int) x19_2 l0 (l0.length : Int) x19_2 x19_2 x43_4 ((rd_T26 l0 x19_2).f0) ((rd_T26 l0 x19_2).f1) = some r) ∧ Aside0 (kq ≤ kj10) ∧ Aside0 (w'.heap[gb385]? = some (.cells #[.int .i64 ((rd_T26 l0 x19_2).f0), .int .i64 ((rd_T26 l0 x19_2).f1)] 26 (0, 0))) ∧ Aside0 (Below w.heap.size w w'))
            case atStart => exact ⟨(0), (by first | rfl | (simp; done) | (simp [*]; done)), H', ⟨Nat.le_refl _⟩, ⟨zk⟩, ⟨zb⟩⟩
            case round =>
             clear H'
             try clear c1
             try clear p2
             try clear q2
             try clear c3
             try clear p3
             try clear q3
             try clear hx3
             try clear c4
             try clear c5
             try clear p6
             try clear c7
             try clear c8
             try clear c8b0
             try clear c9
             try clear c9b0
             try clear c10
             try clear c10b0
             try clear c13
             try clear c14
             try clear c14b0
             try clear c15
             try clear c15b0
             try clear c15b1
             try clear c17
             try clear q20
             try clear q27
             try clear c32
             try clear hcz13_0
             try clear hcz13_1
             try clear hfz13_0
             try clear hfz13_1
             try clear hx384_0
             try clear hx384_1
             try clear p2
             try clear p3
             try clear p384
             try clear p6
             try clear q2
             try clear q20
             try clear q27
             try clear q3
             try clear q384
             obtain ⟨x43_4, rfl, HA, HK4, BK385, HB⟩ := hrel
             cases gk with
             | zero => exact absurd HA.out (by simp [impl_IsPolygon.l1])
             | succ k4 =>
              have H := HA.out
              clear HA
              simp only [impl_IsPolygon.l1] at H
              by_cases c33 : x43_4 < x19_2
              ·rw [if_pos c33] at H
               have c33b0 : decide (x43_4 < x19_2) = true := decide_eq_true c33
               clear c33
               have HC34 := Aside0.mk H
               clear H
               go_upto_region 12 with (fail)
               go_cut [59] (fun v59 wc => ∃ (kq : Nat) (x59_33 : Bool), v59 = .bool x59_33 ∧ Aside0 (impl_IsPolygon.j4 kq l0 (l0.length : Int) x19_2 x43_4 l0 (l0.length : Int) x19_2 x19_2 x43_4 x59_33 ((rd_T26 l0 x19_2).f0) ((rd_T26 l0 x19_2).f1) = some r) ∧ Aside0 (kq ≤ k4) ∧ Aside0 (wc.heap[gb385]? = some (.cells #[.int .i64 ((rd_T26 l0 x19_2).f0), .int .i64 ((rd_T26 l0 x19_2).f1)] 26 (0, 0))) ∧ Aside0 (Below w.heap.size w wc))
               case first =>
                have H := HC34.out
                clear HC34
                by_cases c35 : (wrap64 (x43_4 + 1)) = x19_2
                ·rw [if_pos c35] at H
                 have c35b0 : ((wrap64 (x43_4 + 1)) == x19_2) = true := beq_iff_eq.mpr c35
                 have c35b1 : ((wrap64 (x43_4 + 1)) != x19_2) = false := bne_eq_false_iff_eq.mpr c35
                 clear c35
                 (first | rw [c35b0] | (simp only [i64_w, i32_w]; rw [c35b0]) | skip)
                 have H' := Aside0.mk H
                 clear H
                 go_wp2
                 go_meet
                 case rel => exact ⟨_, (true), (by first | rfl | (simp; done) | (simp [*]; done)), H', ⟨by have := HJ1.out; have := HK2.out; have := HJ10.out; have := HK4.out; first | omega | exact Nat.le_refl _⟩, ⟨zk⟩, ⟨zb⟩⟩
                ·rw [if_neg c35] at H
                 have c35b0 : ((wrap64 (x43_4 + 1)) == x19_2) = false := beq_eq_false_iff_ne.mpr c35
                 have c35b1 : ((wrap64 (x43_4 + 1)) != x19_2) = true := bne_iff_ne.mpr c35
                 (first | rw [c35b0] | (simp only [i64_w, i32_w]; rw [c35b0]) | skip)
                 by_cases c36 : (wrap64 (x19_2 + 1)) = (l0.length : Int)
                 ·rw [if_pos c36] at H
                  have c36b0 : ((wrap64 (x19_2 + 1)) == (l0.length : Int)) = true := beq_iff_eq.mpr c36
                  have c36b1 : ((wrap64 (x19_2 + 1)) != (l0.length : Int)) = false := bne_eq_false_iff_eq.mpr c36
                  clear c36
                  have H' := Aside0.mk H
                  clear H
                  go_wp2
                  go_meet
                  case rel => exact ⟨_, ((x43_4 == 0)), (by first | rfl | (simp; done) | (simp [*]; done)), H', ⟨by have := HJ1.out; have := HK2.out; have := HJ10.out; have := HK4.out; first | omega | exact Nat.le_refl _⟩, ⟨zk⟩, ⟨zb⟩⟩
                 ·rw [if_neg c36] at H
                  have c36b0 : ((wrap64 (x19_2 + 1)) == (l0.length : Int)) = false := beq_eq_false_iff_ne.mpr c36
                  have c36b1 : ((wrap64 (x19_2 + 1)) != (l0.length : Int)) = true := bne_iff_ne.mpr c36
                  have H' := Aside0.mk H
                  clear H
                  go_wp2
                  go_meet
                  case rel => exact ⟨_, (false), (by first | rfl | (simp; done) | (simp [*]; done)), H', ⟨by have := HJ1.out; have := HK2.out; have := HJ10.out; have := HK4.out; first | omega | exact Nat.le_refl _⟩, ⟨zk⟩, ⟨zb⟩⟩
               case rest =>
                clear HC34
                try clear c1
                try clear p2
                try clear q2
                try clear c3
                try clear p3
                try clear q3
                try clear hx3
                try clear c4
                try clear c5
                try clear p6
                try clear c7
                try clear c8
                try clear c8b0
                try clear c9
                try clear c9b0
                try clear c10
                try clear c10b0
                try clear c13
                try clear c14
                try clear c14b0
                try clear c15
                try clear c15b0
                try clear c15b1
                try clear c17
                try clear q20
                try clear q27
                try clear c32
                try clear c33
                try clear c33b0
                try clear c35
                try clear c35b0
                try clear c35b1
                try clear c36
                try clear c36b0
                try clear c36b1
                try clear hcz13_0
                try clear hcz13_1
                try clear hfz13_0
                try clear hfz13_1
                try clear hx384_0
                try clear hx384_1
                try clear p2
                try clear p3
                try clear p384
                try clear p6
                try clear q2
                try clear q20
                try clear q27
                try clear q3
                try clear q384
                obtain ⟨kq, x59_33, rfl, HA, HJ33, BK385, HB⟩ := hcut
                cases kq with
                | zero => exact absurd HA.out (by simp [impl_IsPolygon.j4])
                | succ kj33 =>
                 have H := HA.out
                 clear HA
                 simp only [impl_IsPolygon.j4] at H
                 by_cases c37 : x59_33 = true
                 ·subst c37
                  have H1 : (impl_IsPolygon.l1 kj33 l0 (l0.length : Int) x19_2 l0 (l0.length : Int) x19_2 x19_2 (wrap64 (x43_4 + 1)) ((rd_T26 l0 x19_2).f0) ((rd_T26 l0 x19_2).f1)) = some r := by rw [if_pos rfl] at H; exact H
                  clear H
                  have H := H1
                  clear H1
                  have H' := Aside0.mk H
                  clear H
                  go_wp2
                  go_roundg kj33
                  case measure => have := HJ1.out; have := HK2.out; have := HJ10.out; have := HK4.out; have := HJ33.out; omega
                  case rel => exact ⟨(wrap64 (x43_4 + 1)), (by first | rfl | (simp; done) | (simp [*]; done)), H', ⟨by have := HJ1.out; have := HK2.out; have := HJ10.out; have := HK4.out; have := HJ33.out; omega⟩, ⟨zk⟩, ⟨zb⟩⟩
                 ·replace c37 := Bool.eq_false_iff.mpr c37
                  subst c37
                  have H1 : (if 0 ≤ x43_4 then (if x43_4 < (l0.length : Int) then (if 0 ≤ (wrap64 (x43_4 + 1)) then (if (wrap64 (x43_4 + 1)) < (l0.length : Int) then ((impl_at.f l0 (wrap64 (x19_2 + 1))).bind fun bt398 => ((impl_meet.f kj33 ((rd_T26 l0 x43_4).f0) ((rd_T26 l0 x43_4).f1) ((rd_T26 l0 (wrap64 (x43_4 + 1))).f0) ((rd_T26 l0 (wrap64 (x43_4 + 1))).f1) ((rd_T26 l0 x19_2).f0) ((rd_T26 l0 x19_2).f1) bt398.1 bt398.2).bind fun t400 => (if t400 = true then (some false) else (impl_IsPolygon.l1 kj33 l0 (l0.length : Int) x19_2 l0 (l0.length : Int) x19_2 x19_2 (wrap64 (x43_4 + 1)) ((rd_T26 l0 x19_2).f0) ((rd_T26 l0 x19_2).f1))))) else (none)) else (none)) else (none)) else (none)) = some r := by rw [if_neg (show ¬ (false = true) by decide)] at H; exact H
                  clear H
                  have H := H1
                  clear H1
                  by_cases c38 : 0 ≤ x43_4
                  ·rw [if_pos c38] at H
                   have c38b0 : decide (0 ≤ x43_4) = true := decide_eq_true c38
                   clear c38
                   by_cases c39 : x43_4 < (l0.length : Int)
                   ·rw [if_pos c39] at H
                    have c39b0 : decide (x43_4 < (l0.length : Int)) = true := decide_eq_true c39
                    clear c39
                    obtain ⟨ji40, hji40⟩ : ∃ j_ : Int, (wrap64 (x43_4 + 1)) = j_ := ⟨_, rfl⟩
                    replace H : (if 0 ≤ (ji40) then (if (ji40) < (l0.length : Int) then ((impl_at.f l0 (wrap64 (x19_2 + 1))).bind fun bt398 => ((impl_meet.f kj33 ((rd_T26 l0 x43_4).f0) ((rd_T26 l0 x43_4).f1) ((rd_T26 l0 (ji40)).f0) ((rd_T26 l0 (ji40)).f1) ((rd_T26 l0 x19_2).f0) ((rd_T26 l0 x19_2).f1) bt398.1 bt398.2).bind fun t400 => (if t400 = true then (some false) else (impl_IsPolygon.l1 kj33 l0 (l0.length : Int) x19_2 l0 (l0.length : Int) x19_2 x19_2 ji40 ((rd_T26 l0 x19_2).f0) ((rd_T26 l0 x19_2).f1))))) else (none)) else (none)) = some r := by first | (rw [hji40] at H; exact H) | (simp only [hji40] at H ⊢; exact H)
                    have hji40w : (IntKind.i64.wrap (x43_4 + 1)) = ji40 := (i64_w _).trans hji40
                    by_cases c41 : 0 ≤ (ji40)
                    ·rw [if_pos c41] at H
                     have c41b0 : decide (0 ≤ (ji40)) = true := decide_eq_true c41
                     clear c41
                     by_cases c42 : (ji40) < (l0.length : Int)
                     ·rw [if_pos c42] at H
                      have c42b0 : decide ((ji40) < (l0.length : Int)) = true := decide_eq_true c42
                      clear c42
                      replace H := Option.bind_eq_some_iff.mp H
                      obtain ⟨⟨t398, t399⟩, A430, H⟩ := H
                      replace H : ((impl_meet.f kj33 ((rd_T26 l0 x43_4).f0) ((rd_T26 l0 x43_4).f1) ((rd_T26 l0 (ji40)).f0) ((rd_T26 l0 (ji40)).f1) ((rd_T26 l0 x19_2).f0) ((rd_T26 l0 x19_2).f1) t398 t399).bind fun t400 => (if t400 = true then (some false) else (impl_IsPolygon.l1 kj33 l0 (l0.length : Int) x19_2 l0 (l0.length : Int) x19_2 x19_2 ji40 ((rd_T26 l0 x19_2).f0) ((rd_T26 l0 x19_2).f1)))) = some r := H
                      have A43 := Aside0.mk A430
                      clear A430
                      replace H := Option.bind_eq_some_iff.mp H
                      obtain ⟨t400, A440, H⟩ := H
                      replace H : (if t400 = true then (some false) else (impl_IsPolygon.l1 kj33 l0 (l0.length : Int) x19_2 l0 (l0.length : Int) x19_2 x19_2 ji40 ((rd_T26 l0 x19_2).f0) ((rd_T26 l0 x19_2).f1))) = some r := H
                      have A44 := Aside0.mk A440
                      clear A440
                      by_cases c45 : t400 = true
                      ·subst c45
                       have H1 : (some false) = some r := by rw [if_pos rfl] at H; exact H
                       clear H
                       have H := H1
                       clear H1
                       obtain rfl := Option.some.inj H
                       try go_wp2
                       have n0_ := Aside0.mk (blk_drew BK385.out)
                       have n1_ := Aside0.mk (below_drew1 HB.out)
                       clear BK385
                       clear HB
                       have BK385 := n0_
                       have HB := n1_
                       clear n0_ n1_
                       have p396 : 0 ≤ (x43_4 : Int) := of_decide_eq_true (by first | (with_reducible assumption) | assumption)
                       have q396 : x43_4 < (l0.length : Int) := of_decide_eq_true (by first | (with_reducible assumption) | assumption)
                       obtain ⟨ad396, e396, hx396_0, hx396_1⟩ := at_T26 HR0.out x43_4 p396 q396
                       have hw396_1 := hx396_1
                       have hw396_0 := hx396_0
                       obtain rfl : ad384 = ad396 := (by injection e396)
                       replace hx396_0 := zc HB hx396_0
                       replace hx396_1 := zc HB hx396_1
                       replace p396 := eq_true p396
                       replace q396 := eq_true q396
                       have p397 : 0 ≤ ((ji40) : Int) := of_decide_eq_true (by first | (with_reducible assumption) | assumption)
                       have q397 : (ji40) < (l0.length : Int) := of_decide_eq_true (by first | (with_reducible assumption) | assumption)
                       obtain ⟨ad397, e397, hx397_0, hx397_1⟩ := at_T26 HR0.out (ji40) p397 q397
                       have hw397_1 := hx397_1
                       have hw397_0 := hx397_0
                       obtain rfl : ad384 = ad397 := (by injection e397)
                       replace hx397_0 := zc HB hx397_0
                       replace hx397_1 := zc HB hx397_1
                       replace p397 := eq_true p397
                       replace q397 := eq_true q397
                       refine start_ (n := 15) (S := fun w' => w'.cell? ⟨gb385, 0, none⟩ = some (.int .i64 ((rd_T26 l0 x19_2).f0)) ∧ w'.cell? ⟨gb385, 1, none⟩ = some (.int .i64 ((rd_T26 l0 x19_2).f1)) ∧ w'.cell? (ad384.add ((x43_4).toNat * 2)) = some (.int .i64 ((rd_T26 l0 x43_4).f0)) ∧ w'.cell? ⟨(ad384.add ((x43_4).toNat * 2)).block, (ad384.add ((x43_4).toNat * 2)).off + 1, none⟩ = some (.int .i64 ((rd_T26 l0 x43_4).f1)) ∧ w'.cell? (ad384.add (((ji40)).toNat * 2)) = some (.int .i64 ((rd_T26 l0 (ji40)).f0)) ∧ w'.cell? ⟨(ad384.add (((ji40)).toNat * 2)).block, (ad384.add (((ji40)).toNat * 2)).off + 1, none⟩ = some (.int .i64 ((rd_T26 l0 (ji40)).f1))) (ds := []) (zl 15 0) (by kernel_rfl) rfl rfl ⟨(blk_cell BK385.out 0).trans rfl, (blk_cell BK385.out 1).trans rfl, (zc HB hw396_0), (zc HB hw396_1), (zc HB hw397_0), (zc HB hw397_1)⟩ (fun hHeld => ?_); refine with_tabW impl_IsPolygon.tab13 impl_IsPolygon.bits13 (fun HT_ HW_ => ?_)
                       generalize wc.drew = w46 at BK385 HB hx396_0 hx396_1 hx397_0 hx397_1 hHeld ⊢
                       refine zp 0 60 15 1 HT_ ?_
                       refine zp 1 61 15 3 HT_ ?_
                       refine zp 2 62 15 7 HT_ ?_
                       refine zp 4 64 15 23 HT_ ?_
                       refine zp 5 65 15 55 HT_ ?_
                       refine zp 6 66 15 119 HT_ ?_
                       refine zp 7 67 15 247 HT_ ?_
                       refine zp 10 70 15 1271 HT_ ?_
                       refine zp 11 71 15 3319 HT_ ?_
                       refine zp 12 72 15 7415 HT_ ?_
                       refine take_ (i := 3) (N := some 63) (v := ?_) (a' := ?_) (zl 15 7423) rfl rfl (take_ofW HT_.out HW_.out (by kernel_rfl)) (fun _ _ _ h => h) (Or.inl ⟨by rfl, ?_⟩) hHeld ?_ ?_
                       rotate_left
                       ·rintro w' ⟨s0, s1, s2, s3, s4, s5⟩
                        go_simp
                        with_reducible rfl
                       rotate_left
                       ·exact zs
                       refine take_ (i := 8) (N := some 68) (v := ?_) (a' := ?_) (zl 15 7679) rfl rfl (take_ofW HT_.out HW_.out (by kernel_rfl)) (fun _ _ _ h => h) (Or.inl ⟨by rfl, ?_⟩) hHeld ?_ ?_
                       rotate_left
                       ·rintro w' ⟨s0, s1, s2, s3, s4, s5⟩
                        go_simp
                        with_reducible rfl
                       rotate_left
                       ·exact zs
                       refine take_ (i := 9) (N := some 69) (v := ?_) (a' := ?_) (zl 15 8191) rfl rfl (take_ofW HT_.out HW_.out (by kernel_rfl)) (fun _ _ _ h => h) (Or.inl ⟨by rfl, ?_⟩) hHeld ?_ ?_
                       rotate_left
                       ·rintro w' ⟨s0, s1, s2, s3, s4, s5⟩
                        go_simp
                        with_reducible rfl
                       rotate_left
                       ·exact zs
                       refine one_ (i := 13) (N := some 73) (zl 15 16383) rfl rfl (one_of HT_.out (by kernel_rfl)) (by decide) (fun K hK => ?_)
                       refine goes_ Try.func174 (by kernel_rfl) rfl #[.slice (some ad384) l0.length c0, .int .i64 (wrap64 (x19_2 + 1))] (by rfl) rfl rfl zn ?_
                       with_reducible refine (impl_at.calls _ _ l0 (wrap64 (x19_2 + 1)) t398 t399 _ ?side1 ?side2 A43.out).mono ?_
                       (case side1 => repeat (first | exact (Kd.C_below HR0.out HB.out) | (with_reducible refine Kd.C_alloc ?_ _) | (with_reducible refine Kd.C_drewN ?_ _) | (with_reducible refine Kd.C_drew ?_)))
                       (case side2 => exact HC0.out)
                       rintro e w47 ⟨rfl, hb⟩
                       refine ⟨_, rfl, ?_⟩
                       have n0_ := Aside0.mk (blk_below (g := gb385) (o := .cells #[.int .i64 ((rd_T26 l0 x19_2).f0), .int .i64 ((rd_T26 l0 x19_2).f1)] 26 (0, 0)) zk hb)
                       have n1_ := Aside0.mk (below_step zb hb)
                       clear BK385
                       clear HB
                       have BK385 := n0_
                       have HB := n1_
                       clear n0_ n1_
                       (try clear hb)
                       (try clear hb2)
                       (try clear hk)
                       (try clear hi)
                       refine hK.out _ _ ⟨(blk_cell BK385.out 0).trans rfl, (blk_cell BK385.out 1).trans rfl, (zc HB hw396_0), (zc HB hw396_1), (zc HB hw397_0), (zc HB hw397_1)⟩ (fun hHeld => ?_)
                       clear hK K
                       refine norm_ (a' := ?_) ?_ ?_
                       rotate_left
                       ·show Act.put _ (some 73) _ = _
                        exact zs
                       refine one_ (i := 14) (N := some 74) (zl 15 32767) rfl rfl (one_of HT_.out (by kernel_rfl)) (by decide) (fun K hK => ?_)
                       refine goes_ Try.func175 (by kernel_rfl) rfl #[.agg #[.int .i64 ((rd_T26 l0 x43_4).f0), .int .i64 ((rd_T26 l0 x43_4).f1)], .agg #[.int .i64 ((rd_T26 l0 (ji40)).f0), .int .i64 ((rd_T26 l0 (ji40)).f1)], .agg #[.int .i64 ((rd_T26 l0 x19_2).f0), .int .i64 ((rd_T26 l0 x19_2).f1)], .agg #[.int .i64 t398, .int .i64 t399]] (by rfl) rfl rfl (by (try simp only [List.map_toArray, List.map_cons, List.map_nil]); first | done | (simp only [hji40]; rfl) | rfl | (simp only [List.length_drop, List.length_take]; rfl)) ?_
                       with_reducible refine (impl_meet.calls kj33 ((rd_T26 l0 x43_4).f0) ((rd_T26 l0 x43_4).f1) ((rd_T26 l0 (ji40)).f0) ((rd_T26 l0 (ji40)).f1) ((rd_T26 l0 x19_2).f0) ((rd_T26 l0 x19_2).f1) t398 t399 true _ A44.out).mono ?_
                       rintro e w48 ⟨rfl, hb⟩
                       refine ⟨_, rfl, ?_⟩
                       have n0_ := Aside0.mk (blk_below (g := gb385) (o := .cells #[.int .i64 ((rd_T26 l0 x19_2).f0), .int .i64 ((rd_T26 l0 x19_2).f1)] 26 (0, 0)) zk hb)
                       have n1_ := Aside0.mk (below_step zb hb)
                       clear BK385
                       clear HB
                       have BK385 := n0_
                       have HB := n1_
                       clear n0_ n1_
                       (try clear hb)
                       (try clear hb2)
                       (try clear hk)
                       (try clear hi)
                       refine hK.out _ _ ⟨(blk_cell BK385.out 0).trans rfl, (blk_cell BK385.out 1).trans rfl, (zc HB hw396_0), (zc HB hw396_1), (zc HB hw397_0), (zc HB hw397_1)⟩ (fun hHeld => ?_)
                       clear hK K
                       refine norm_ (a' := ?_) ?_ ?_
                       rotate_left
                       ·show Act.put _ (some 74) _ = _
                        exact zs
                       refine done_ (done_of HT_.out (by kernel_rfl)) ?_
                       try go_wp2
                       go_ret
                       exact ⟨by first | rfl | (simp [errW_none, errW_some] <;> rfl) | (simp only [← hji40]; first | rfl | (simp [errW_none, errW_some] <;> rfl)) | (simp [*, errW_none, errW_some] <;> rfl), zb⟩
                      ·replace c45 := Bool.eq_false_iff.mpr c45
                       subst c45
                       have H1 : (impl_IsPolygon.l1 kj33 l0 (l0.length : Int) x19_2 l0 (l0.length : Int) x19_2 x19_2 ji40 ((rd_T26 l0 x19_2).f0) ((rd_T26 l0 x19_2).f1)) = some r := by rw [if_neg (show ¬ (false = true) by decide)] at H; exact H
                       clear H
                       have H := H1
                       clear H1
                       have H' := Aside0.mk H
                       clear H
                       try go_wp2
                       have n0_ := Aside0.mk (blk_drew BK385.out)
                       have n1_ := Aside0.mk (below_drew1 HB.out)
                       clear BK385
                       clear HB
                       have BK385 := n0_
                       have HB := n1_
                       clear n0_ n1_
                       have p396 : 0 ≤ (x43_4 : Int) := of_decide_eq_true (by first | (with_reducible assumption) | assumption)
                       have q396 : x43_4 < (l0.length : Int) := of_decide_eq_true (by first | (with_reducible assumption) | assumption)
                       obtain ⟨ad396, e396, hx396_0, hx396_1⟩ := at_T26 HR0.out x43_4 p396 q396
                       have hw396_1 := hx396_1
                       have hw396_0 := hx396_0
                       obtain rfl : ad384 = ad396 := (by injection e396)
                       replace hx396_0 := zc HB hx396_0
                       replace hx396_1 := zc HB hx396_1
                       replace p396 := eq_true p396
                       replace q396 := eq_true q396
                       have p397 : 0 ≤ ((ji40) : Int) := of_decide_eq_true (by first | (with_reducible assumption) | assumption)
                       have q397 : (ji40) < (l0.length : Int) := of_decide_eq_true (by first | (with_reducible assumption) | assumption)
                       obtain ⟨ad397, e397, hx397_0, hx397_1⟩ := at_T26 HR0.out (ji40) p397 q397
                       have hw397_1 := hx397_1
                       have hw397_0 := hx397_0
                       obtain rfl : ad384 = ad397 := (by injection e397)
                       replace hx397_0 := zc HB hx397_0
                       replace hx397_1 := zc HB hx397_1
                       replace p397 := eq_true p397
                       replace q397 := eq_true q397
                       refine start_ (n := 15) (S := fun w' => w'.cell? ⟨gb385, 0, none⟩ = some (.int .i64 ((rd_T26 l0 x19_2).f0)) ∧ w'.cell? ⟨gb385, 1, none⟩ = some (.int .i64 ((rd_T26 l0 x19_2).f1)) ∧ w'.cell? (ad384.add ((x43_4).toNat * 2)) = some (.int .i64 ((rd_T26 l0 x43_4).f0)) ∧ w'.cell? ⟨(ad384.add ((x43_4).toNat * 2)).block, (ad384.add ((x43_4).toNat * 2)).off + 1, none⟩ = some (.int .i64 ((rd_T26 l0 x43_4).f1)) ∧ w'.cell? (ad384.add (((ji40)).toNat * 2)) = some (.int .i64 ((rd_T26 l0 (ji40)).f0)) ∧ w'.cell? ⟨(ad384.add (((ji40)).toNat * 2)).block, (ad384.add (((ji40)).toNat * 2)).off + 1, none⟩ = some (.int .i64 ((rd_T26 l0 (ji40)).f1))) (ds := []) (zl 15 0) (by kernel_rfl) rfl rfl ⟨(blk_cell BK385.out 0).trans rfl, (blk_cell BK385.out 1).trans rfl, (zc HB hw396_0), (zc HB hw396_1), (zc HB hw397_0), (zc HB hw397_1)⟩ (fun hHeld => ?_); refine with_tabW impl_IsPolygon.tab13 impl_IsPolygon.bits13 (fun HT_ HW_ => ?_)
                       generalize wc.drew = w49 at BK385 HB hx396_0 hx396_1 hx397_0 hx397_1 hHeld ⊢
                       refine zp 0 60 15 1 HT_ ?_
                       refine zp 1 61 15 3 HT_ ?_
                       refine zp 2 62 15 7 HT_ ?_
                       refine zp 4 64 15 23 HT_ ?_
                       refine zp 5 65 15 55 HT_ ?_
                       refine zp 6 66 15 119 HT_ ?_
                       refine zp 7 67 15 247 HT_ ?_
                       refine zp 10 70 15 1271 HT_ ?_
                       refine zp 11 71 15 3319 HT_ ?_
                       refine zp 12 72 15 7415 HT_ ?_
                       refine take_ (i := 3) (N := some 63) (v := ?_) (a' := ?_) (zl 15 7423) rfl rfl (take_ofW HT_.out HW_.out (by kernel_rfl)) (fun _ _ _ h => h) (Or.inl ⟨by rfl, ?_⟩) hHeld ?_ ?_
                       rotate_left
                       ·rintro w' ⟨s0, s1, s2, s3, s4, s5⟩
                        go_simp
                        with_reducible rfl
                       rotate_left
                       ·exact zs
                       refine take_ (i := 8) (N := some 68) (v := ?_) (a' := ?_) (zl 15 7679) rfl rfl (take_ofW HT_.out HW_.out (by kernel_rfl)) (fun _ _ _ h => h) (Or.inl ⟨by rfl, ?_⟩) hHeld ?_ ?_
                       rotate_left
                       ·rintro w' ⟨s0, s1, s2, s3, s4, s5⟩
                        go_simp
                        with_reducible rfl
                       rotate_left
                       ·exact zs
                       refine take_ (i := 9) (N := some 69) (v := ?_) (a' := ?_) (zl 15 8191) rfl rfl (take_ofW HT_.out HW_.out (by kernel_rfl)) (fun _ _ _ h => h) (Or.inl ⟨by rfl, ?_⟩) hHeld ?_ ?_
                       rotate_left
                       ·rintro w' ⟨s0, s1, s2, s3, s4, s5⟩
                        go_simp
                        with_reducible rfl
                       rotate_left
                       ·exact zs
                       refine one_ (i := 13) (N := some 73) (zl 15 16383) rfl rfl (one_of HT_.out (by kernel_rfl)) (by decide) (fun K hK => ?_)
                       refine goes_ Try.func174 (by kernel_rfl) rfl #[.slice (some ad384) l0.length c0, .int .i64 (wrap64 (x19_2 + 1))] (by rfl) rfl rfl zn ?_
                       with_reducible refine (impl_at.calls _ _ l0 (wrap64 (x19_2 + 1)) t398 t399 _ ?side1 ?side2 A43.out).mono ?_
                       (case side1 => repeat (first | exact (Kd.C_below HR0.out HB.out) | (with_reducible refine Kd.C_alloc ?_ _) | (with_reducible refine Kd.C_drewN ?_ _) | (with_reducible refine Kd.C_drew ?_)))
                       (case side2 => exact HC0.out)
                       rintro e w50 ⟨rfl, hb⟩
                       refine ⟨_, rfl, ?_⟩
                       have n0_ := Aside0.mk (blk_below (g := gb385) (o := .cells #[.int .i64 ((rd_T26 l0 x19_2).f0), .int .i64 ((rd_T26 l0 x19_2).f1)] 26 (0, 0)) zk hb)
                       have n1_ := Aside0.mk (below_step zb hb)
                       clear BK385
                       clear HB
                       have BK385 := n0_
                       have HB := n1_
                       clear n0_ n1_
                       (try clear hb)
                       (try clear hb2)
                       (try clear hk)
                       (try clear hi)
                       refine hK.out _ _ ⟨(blk_cell BK385.out 0).trans rfl, (blk_cell BK385.out 1).trans rfl, (zc HB hw396_0), (zc HB hw396_1), (zc HB hw397_0), (zc HB hw397_1)⟩ (fun hHeld => ?_)
                       clear hK K
                       refine norm_ (a' := ?_) ?_ ?_
                       rotate_left
                       ·show Act.put _ (some 73) _ = _
                        exact zs
                       refine one_ (i := 14) (N := some 74) (zl 15 32767) rfl rfl (one_of HT_.out (by kernel_rfl)) (by decide) (fun K hK => ?_)
                       refine goes_ Try.func175 (by kernel_rfl) rfl #[.agg #[.int .i64 ((rd_T26 l0 x43_4).f0), .int .i64 ((rd_T26 l0 x43_4).f1)], .agg #[.int .i64 ((rd_T26 l0 (ji40)).f0), .int .i64 ((rd_T26 l0 (ji40)).f1)], .agg #[.int .i64 ((rd_T26 l0 x19_2).f0), .int .i64 ((rd_T26 l0 x19_2).f1)], .agg #[.int .i64 t398, .int .i64 t399]] (by rfl) rfl rfl (by (try simp only [List.map_toArray, List.map_cons, List.map_nil]); first | done | (simp only [hji40]; rfl) | rfl | (simp only [List.length_drop, List.length_take]; rfl)) ?_
                       with_reducible refine (impl_meet.calls kj33 ((rd_T26 l0 x43_4).f0) ((rd_T26 l0 x43_4).f1) ((rd_T26 l0 (ji40)).f0) ((rd_T26 l0 (ji40)).f1) ((rd_T26 l0 x19_2).f0) ((rd_T26 l0 x19_2).f1) t398 t399 false _ A44.out).mono ?_
                       rintro e w51 ⟨rfl, hb⟩
                       refine ⟨_, rfl, ?_⟩
                       have n0_ := Aside0.mk (blk_below (g := gb385) (o := .cells #[.int .i64 ((rd_T26 l0 x19_2).f0), .int .i64 ((rd_T26 l0 x19_2).f1)] 26 (0, 0)) zk hb)
                       have n1_ := Aside0.mk (below_step zb hb)
                       clear BK385
                       clear HB
                       have BK385 := n0_
                       have HB := n1_
                       clear n0_ n1_
                       (try clear hb)
                       (try clear hb2)
                       (try clear hk)
                       (try clear hi)
                       refine hK.out _ _ ⟨(blk_cell BK385.out 0).trans rfl, (blk_cell BK385.out 1).trans rfl, (zc HB hw396_0), (zc HB hw396_1), (zc HB hw397_0), (zc HB hw397_1)⟩ (fun hHeld => ?_)
                       clear hK K
                       refine norm_ (a' := ?_) ?_ ?_
                       rotate_left
                       ·show Act.put _ (some 74) _ = _
                        exact zs
                       refine done_ (done_of HT_.out (by kernel_rfl)) ?_
                       try go_wp2
                       go_roundg kj33
                       case measure => have := HJ1.out; have := HK2.out; have := HJ10.out; have := HK4.out; have := HJ33.out; omega
                       case rel => exact ⟨(ji40), (by first | rfl | (simp; done) | (simp only [← hji40] <;> (first | rfl | simp)) | (simp [*]; done)), H', ⟨by have := HJ1.out; have := HK2.out; have := HJ10.out; have := HK4.out; have := HJ33.out; omega⟩, ⟨zk⟩, ⟨zb⟩⟩
                     ·rw [if_neg c42] at H
                      exact absurd H (by simp)
                    ·rw [if_neg c41] at H
                     exact absurd H (by simp)
                   ·rw [if_neg c39] at H
                    exact absurd H (by simp)
                  ·rw [if_neg c38] at H
                   exact absurd H (by simp)
              ·rw [if_neg c33] at H
               have c33b0 : decide (x43_4 < x19_2) = false := decide_eq_false c33
               clear c33
               have H' := Aside0.mk H
               clear H
               go_wp2
               go_roundg k4
               case measure => have := HJ1.out; have := HK2.out; have := HJ10.out; have := HK4.out; omega
               case rel => exact ⟨(wrap64 (x19_2 + 1)), (by first | rfl | (simp; done) | (simp [*]; done)), H', ⟨by have := HJ1.out; have := HK2.out; have := HJ10.out; have := HK4.out; omega⟩, ⟨zb⟩⟩
        ·rw [if_neg c10] at H
         exact absurd H (by simp)
       ·rw [if_neg c9] at H
        exact absurd H (by simp)
      ·rw [if_neg c8] at H
       have c8b0 : decide (x19_2 < (l0.length : Int)) = false := decide_eq_false c8
       clear c8
       obtain rfl := Option.some.inj H
       go_wp2
       go_ret
       exact ⟨by first | rfl | (simp [errW_none, errW_some] <;> rfl) | (simp [*, errW_none, errW_some] <;> rfl), zb⟩
end Go.Proofs.Ytphpdfcblchpnaa.Q
namespace Go.Proofs.Ytphpdfcblchpnaa.Q
open Go.RowKit Go.Proofs.YtphpdfcblchpnaaW.PrintWords Go.Proofs.YtphpdfcblchpnaaW.PrintLast Go.Proofs.YtphpdfcblchpnaaW.PrintMore
attribute [local go_sem] max2_int min2_int max_two min_two max_three min_three max_four min_four   -- for this text's walks alone
set_option linter.unusedVariables false
set_option linter.unusedSimpArgs false
def impl_size.f (a0 : Int) : Option (Int) := some (mx a0 (wrap64 (-a0)))
set_option maxHeartbeats 8000000 in
set_option maxRecDepth 100000 in
theorem impl_size.calls (a0 : Int) (r : Int) (w : World) (h : impl_size.f a0 = some r) :
  Calls Try.prog 148 #[.int .i64 a0] w fun e w' => e = .returned (.int .i64 r) ∧ Below w.heap.size w w' := by
 have HB := Aside0.mk (Below.refl w.heap.size w)
 have H : (some (mx a0 (wrap64 (-a0)))) = some r := h
 clear h
 obtain ⟨ji2, hji2⟩ : ∃ j_ : Int, (mx a0 (wrap64 (-a0))) = j_ := ⟨_, rfl⟩
 replace H : (some ji2) = some r := by first | (rw [hji2] at H; exact H) | (simp only [hji2] at H ⊢; exact H)
 have hji2_ : (if a0 < (wrap64 (-a0)) then (wrap64 (-a0)) else a0) = ji2 := hji2
 obtain rfl := Option.some.inj H
 go_enter Try.func148, Try.ntmps148
 go_wp2
 go_ret
 exact ⟨by first | rfl | (simp [errW_none, errW_some] <;> rfl) | (simp only [← hji2]; first | rfl | (simp [errW_none, errW_some] <;> rfl)) | (simp [*, errW_none, errW_some] <;> rfl), zb⟩
def spec_l1Most.f (a0 : Int) (a1 : Int) : Option (Int) := if a0 > a1 then (some a0) else (some a1)
set_option maxHeartbeats 8000000 in
set_option maxRecDepth 100000 in
theorem spec_l1Most.calls (a0 : Int) (a1 : Int) (r : Int) (w : World) (h : spec_l1Most.f a0 a1 = some r) :
  Calls Try.prog 200 #[.int .i64 a0, .int .i64 a1] w fun e w' => e = .returned (.int .i64 r) ∧ Drawn0 w w' := by
 have H : (if a0 > a1 then (some a0) else (some a1)) = some r := h
 clear h
 by_cases c3 : a0 > a1
 ·rw [if_pos c3] at H
  have c3b0 : decide (a1 < a0) = true := decide_eq_true c3
  clear c3
  obtain rfl := Option.some.inj H
  go_enter Try.func200, Try.ntmps200
  go_wp2
  go_ret
  exact ⟨by first | rfl | (simp; done) | (simp [*]; done), by repeat (first | exact Drawn0.refl _ | apply Drawn0.step)⟩
 ·rw [if_neg c3] at H
  have c3b0 : decide (a1 < a0) = false := decide_eq_false c3
  clear c3
  obtain rfl := Option.some.inj H
  go_enter Try.func200, Try.ntmps200
  go_wp2
  go_ret
  exact ⟨by first | rfl | (simp; done) | (simp [*]; done), by repeat (first | exact Drawn0.refl _ | apply Drawn0.step)⟩
def spec_l1Abs.f (a0 : Int) : Option (Int) := (spec_l1Most.f a0 (wrap64 (-a0))).bind fun t641 => (some t641)
set_option maxHeartbeats 8000000 in
set_option maxRecDepth 100000 in
theorem spec_l1Abs.calls (a0 : Int) (r : Int) (w : World) (h : spec_l1Abs.f a0 = some r) :
  Calls Try.prog 149 #[.int .i64 a0] w fun e w' => e = .returned (.int .i64 r) ∧ Drawn0 w w' := by
 have H : ((spec_l1Most.f a0 (wrap64 (-a0))).bind fun t641 => (some t641)) = some r := h
 clear h
 replace H := Option.bind_eq_some_iff.mp H
 obtain ⟨t641, A20, H⟩ := H
 replace H : (some t641) = some r := H
 have A2 := Aside0.mk A20
 clear A20
 obtain rfl := Option.some.inj H
 go_enter Try.func149, Try.ntmps149
 go_wp2_with (first | ((with_reducible refine gate_callee (f := 200) rfl ?_); refine goesL_ (some 6) rfl rfl Try.func200 (by kernel_rfl) rfl #[.int .i64 a0, .int .i64 (wrap64 (-a0))] rfl zn ?_; (with_reducible refine (spec_l1Most.calls a0 (wrap64 (-a0)) t641 _ A2.out).mono ?_); rintro e w' ⟨rfl, ⟨nd, rfl⟩⟩; refine ⟨_, rfl, ?_⟩))
 go_ret
 exact ⟨by first | rfl | (simp; done) | (simp [*]; done), by repeat (first | exact Drawn0.refl _ | apply Drawn0.step)⟩
def impl_divisor.l0 : Nat → Int → Int → Option (Int)
 | 0, _, _ => none
 | k + 1, x0, x1 => if x1 = 0 then ((impl_size.f x0).bind fun t645 => (some t645)) else (impl_divisor.l0 k x1 (Int.tmod x0 x1))
def impl_divisor.f (k : Nat) (a0 : Int) (a1 : Int) : Option (Int) := impl_divisor.l0 k a0 a1
set_option maxHeartbeats 8000000 in
set_option maxRecDepth 100000 in
theorem impl_divisor.calls (k : Nat) (a0 : Int) (a1 : Int) (r : Int) (w : World) (h : impl_divisor.f k a0 a1 = some r) :
  Calls Try.prog 197 #[.int .i64 a0, .int .i64 a1] w fun e w' => e = .returned (.int .i64 r) ∧ Below w.heap.size w w' := by
 have HB := Aside0.mk (Below.refl w.heap.size w)
 have H : (impl_divisor.l0 k a0 a1) = some r := h
 clear h
 have H' := Aside0.mk H
 clear H
 go_enter Try.func197, Try.ntmps197
 go_wp2
 repeat (go_quiet (fail); try go_wp2)
 go_loopg [0, 1] k (fun kq v0 v1 w' => ∃ (x0_1 : Int) (x1_1 : Int), v0 = .int .i64 x0_1 ∧ v1 = .int .i64 x1_1 ∧ Aside0 (impl_divisor.l0 kq x0_1 x1_1 = some r) ∧ Aside0 (kq ≤ k) ∧ Aside0 (Below w.heap.size w w'))
 case atStart => exact ⟨(a0), (a1), (by first | rfl | (simp; done) | (simp [*]; done)), (by first | rfl | (simp; done) | (simp [*]; done)), H', ⟨Nat.le_refl _⟩, ⟨zb⟩⟩
 case round =>
  clear H'
  try clear c1
  try clear p2
  obtain ⟨x0_1, x1_1, rfl, rfl, HA, HK1, HB⟩ := hrel
  cases gk with
  | zero => exact absurd HA.out (by simp [impl_divisor.l0])
  | succ k1 =>
   have H := HA.out
   clear HA
   simp only [impl_divisor.l0] at H
   by_cases c3 : x1_1 = 0
   ·rw [if_pos c3] at H
    have c3b0 : (x1_1 == 0) = true := beq_iff_eq.mpr c3
    have c3b1 : (x1_1 != 0) = false := bne_eq_false_iff_eq.mpr c3
    clear c3
    replace H := Option.bind_eq_some_iff.mp H
    obtain ⟨t645, A40, H⟩ := H
    replace H : (some t645) = some r := H
    have A4 := Aside0.mk A40
    clear A40
    obtain rfl := Option.some.inj H
    go_wp2_with (first | (go_at_call 148; (with_reducible refine (impl_size.calls x0_1 t645 _ A4.out).mono ?_); rintro e w5 ⟨rfl, hb⟩; have n0_ := Aside0.mk (below_step zb hb); clear HB; have HB := n0_; clear n0_; (try clear hb); (try clear hb2); (try clear hk); (try clear hi)))
    repeat (go_quiet (first | (go_at_call 148; (with_reducible refine (impl_size.calls x0_1 t645 _ A4.out).mono ?_); rintro e w5 ⟨rfl, hb⟩; have n0_ := Aside0.mk (below_step zb hb); clear HB; have HB := n0_; clear n0_; (try clear hb); (try clear hb2); (try clear hk); (try clear hi))); try go_wp2_with (first | (go_at_call 148; (with_reducible refine (impl_size.calls x0_1 t645 _ A4.out).mono ?_); rintro e w5 ⟨rfl, hb⟩; have n0_ := Aside0.mk (below_step zb hb); clear HB; have HB := n0_; clear n0_; (try clear hb); (try clear hb2); (try clear hk); (try clear hi))))
    go_ret
    exact ⟨by first | rfl | (simp [errW_none, errW_some] <;> rfl) | (simp [*, errW_none, errW_some] <;> rfl), zb⟩
   ·rw [if_neg c3] at H
    have c3b0 : (x1_1 == 0) = false := beq_eq_false_iff_ne.mpr c3
    have c3b1 : (x1_1 != 0) = true := bne_iff_ne.mpr c3
    have H' := Aside0.mk H
    clear H
    go_wp2
    repeat (go_quiet (fail); try go_wp2)
    go_roundg k1
    case measure => have := HK1.out; omega
    case rel => exact ⟨(x1_1), (Int.tmod x0_1 x1_1), (by first | rfl | (simp; done) | (simp [*]; done)), (by first | rfl | (simp; done) | (simp [*]; done)), H', ⟨by have := HK1.out; omega⟩, ⟨zb⟩⟩
def spec_pgCommon.l0 : Nat → Int → Int → Option (Int)
 | 0, _, _ => none
 | k + 1, x0, x1 => if x1 > 0 then (if x1 = 0 then (none) else (spec_pgCommon.l0 k x1 (Int.tmod x0 x1))) else (some x0)
def spec_pgCommon.f (k : Nat) (a0 : Int) (a1 : Int) : Option (Int) := (spec_l1Abs.f a0).bind fun t659 => ((spec_l1Abs.f a1).bind fun t660 => (spec_pgCommon.l0 k t659 t660))
set_option maxHeartbeats 8000000 in
set_option maxRecDepth 100000 in
theorem spec_pgCommon.calls (k : Nat) (a0 : Int) (a1 : Int) (r : Int) (w : World) (h : spec_pgCommon.f k a0 a1 = some r) :
  Calls Try.prog 198 #[.int .i64 a0, .int .i64 a1] w fun e w' => e = .returned (.int .i64 r) ∧ Drawn0 w w' := by
 have H : ((spec_l1Abs.f a0).bind fun t659 => ((spec_l1Abs.f a1).bind fun t660 => (spec_pgCommon.l0 k t659 t660))) = some r := h
 clear h
 replace H := Option.bind_eq_some_iff.mp H
 obtain ⟨t659, A30, H⟩ := H
 replace H : ((spec_l1Abs.f a1).bind fun t660 => (spec_pgCommon.l0 k t659 t660)) = some r := H
 have A3 := Aside0.mk A30
 clear A30
 replace H := Option.bind_eq_some_iff.mp H
 obtain ⟨t660, A40, H⟩ := H
 replace H : (spec_pgCommon.l0 k t659 t660) = some r := H
 have A4 := Aside0.mk A40
 clear A40
 have H' := Aside0.mk H
 clear H
 go_enter Try.func198, Try.ntmps198
 go_wp2_with (first | (go_at_call 149; (with_reducible refine (spec_l1Abs.calls a0 t659 _ A3.out).mono ?_); rintro e w' ⟨rfl, ⟨nd, rfl⟩⟩; (try first | exact ⟨rfl, _, World.drewN_drewN _ _ _⟩ | exact ⟨rfl, _, Eq.trans (World.drewN_drewN _ _ _) (congrArg (World.drewN _) (Nat.add_assoc _ _ _))⟩)) | (go_at_call 149; (with_reducible refine (spec_l1Abs.calls a1 t660 _ A4.out).mono ?_); rintro e w' ⟨rfl, ⟨nd, rfl⟩⟩; (try first | exact ⟨rfl, _, World.drewN_drewN _ _ _⟩ | exact ⟨rfl, _, Eq.trans (World.drewN_drewN _ _ _) (congrArg (World.drewN _) (Nat.add_assoc _ _ _))⟩)))
 repeat (go_quiet (first | (go_at_call 149; (with_reducible refine (spec_l1Abs.calls a0 t659 _ A3.out).mono ?_); rintro e w' ⟨rfl, ⟨nd, rfl⟩⟩; (try first | exact ⟨rfl, _, World.drewN_drewN _ _ _⟩ | exact ⟨rfl, _, Eq.trans (World.drewN_drewN _ _ _) (congrArg (World.drewN _) (Nat.add_assoc _ _ _))⟩)) | (go_at_call 149; (with_reducible refine (spec_l1Abs.calls a1 t660 _ A4.out).mono ?_); rintro e w' ⟨rfl, ⟨nd, rfl⟩⟩; (try first | exact ⟨rfl, _, World.drewN_drewN _ _ _⟩ | exact ⟨rfl, _, Eq.trans (World.drewN_drewN _ _ _) (congrArg (World.drewN _) (Nat.add_assoc _ _ _))⟩))); try go_wp2_with (first | (go_at_call 149; (with_reducible refine (spec_l1Abs.calls a0 t659 _ A3.out).mono ?_); rintro e w' ⟨rfl, ⟨nd, rfl⟩⟩; (try first | exact ⟨rfl, _, World.drewN_drewN _ _ _⟩ | exact ⟨rfl, _, Eq.trans (World.drewN_drewN _ _ _) (congrArg (World.drewN _) (Nat.add_assoc _ _ _))⟩)) | (go_at_call 149; (with_reducible refine (spec_l1Abs.calls a1 t660 _ A4.out).mono ?_); rintro e w' ⟨rfl, ⟨nd, rfl⟩⟩; (try first | exact ⟨rfl, _, World.drewN_drewN _ _ _⟩ | exact ⟨rfl, _, Eq.trans (World.drewN_drewN _ _ _) (congrArg (World.drewN _) (Nat.add_assoc _ _ _))⟩))))
 go_loopg [0, 1] k (fun kq v0 v1 w' => ∃ (x0_1 : Int) (x1_1 : Int), v0 = .int .i64 x0_1 ∧ v1 = .int .i64 x1_1 ∧ Aside0 (spec_pgCommon.l0 kq x0_1 x1_1 = some r) ∧ Aside0 (kq ≤ k) ∧ Drawn0 w w')
 case atStart => exact ⟨(t659), (t660), (by first | rfl | (simp; done) | (simp [*]; done)), (by first | rfl | (simp; done) | (simp [*]; done)), H', ⟨Nat.le_refl _⟩, by repeat (first | exact Drawn0.refl _ | apply Drawn0.step)⟩
 case round =>
  clear H'
  try clear c1
  try clear p2
  obtain ⟨x0_1, x1_1, rfl, rfl, HA, HK1, ⟨m1, rfl⟩⟩ := hrel
  cases gk with
  | zero => exact absurd HA.out (by simp [spec_pgCommon.l0])
  | succ k1 =>
   have H := HA.out
   clear HA
   simp only [spec_pgCommon.l0] at H
   by_cases c5 : x1_1 > 0
   ·rw [if_pos c5] at H
    have c5b0 : decide (0 < x1_1) = true := decide_eq_true c5
    clear c5
    by_cases c6 : x1_1 = 0
    ·rw [if_pos c6] at H
     exact absurd H (by simp)
    ·rw [if_neg c6] at H
     have c6b0 : (x1_1 == 0) = false := beq_eq_false_iff_ne.mpr c6
     have c6b1 : (x1_1 != 0) = true := bne_iff_ne.mpr c6
     have H' := Aside0.mk H
     clear H
     go_wp2
     repeat (go_quiet (fail); try go_wp2)
     go_roundg k1
     case measure => have := HK1.out; omega
     case rel => exact ⟨(x1_1), (Int.tmod x0_1 x1_1), (by first | rfl | (simp; done) | (simp [*]; done)), (by first | rfl | (simp; done) | (simp [*]; done)), H', ⟨by have := HK1.out; omega⟩, by repeat (first | exact Drawn0.refl _ | apply Drawn0.step)⟩
   ·rw [if_neg c5] at H
    have c5b0 : decide (0 < x1_1) = false := decide_eq_false c5
    clear c5
    obtain rfl := Option.some.inj H
    go_wp2
    repeat (go_quiet (fail); try go_wp2)
    go_ret
    exact ⟨by first | rfl | (simp; done) | (simp [*]; done), by repeat (first | exact Drawn0.refl _ | apply Drawn0.step)⟩
end Go.Proofs.Ytphpdfcblchpnaa.Q
namespace Go.Proofs.Ytphpdfcblchpnaa.Q
open Go.RowKit Go.Proofs.YtphpdfcblchpnaaW.PrintWords Go.Proofs.YtphpdfcblchpnaaW.PrintLast Go.Proofs.YtphpdfcblchpnaaW.PrintMore
attribute [local go_sem] max2_int min2_int max_two min_two max_three min_three max_four min_four   -- for this text's walks alone
set_option linter.unusedVariables false
set_option linter.unusedSimpArgs false
def laws_szPegS.f (l0 : List (S97)) (a1 : Int) : Option (Int) := if (wrap64 (a1 - (l0.length : Int))) < 0 then (some (-1)) else (some (wrap64 (a1 - (l0.length : Int))))
set_option maxHeartbeats 8000000 in
set_option maxRecDepth 100000 in
theorem laws_szPegS.calls (A0 : Option Addr) (c0 : Nat) (l0 : List (S97)) (a1 : Int) (r : Int) (w : World) (hr0 : Kd.C k97 w A0 l0.length l0) (hc0 : l0.length ≤ c0) (h : laws_szPegS.f l0 a1 = some r) :
  Calls Try.prog 35 #[.slice A0 l0.length c0, .int .i64 a1] w fun e w' => e = .returned (.int .i64 r) ∧ Drawn0 w w' := by
 have HR0 := Aside0.mk hr0
 have HC0 := Aside0.mk hc0
 clear hr0 hc0
 have H : (if (wrap64 (a1 - (l0.length : Int))) < 0 then (some (-1)) else (some (wrap64 (a1 - (l0.length : Int))))) = some r := h
 clear h
 by_cases c3 : (wrap64 (a1 - (l0.length : Int))) < 0
 ·rw [if_pos c3] at H
  have c3b0 : decide ((wrap64 (a1 - (l0.length : Int))) < 0) = true := decide_eq_true c3
  clear c3
  obtain rfl := Option.some.inj H
  go_enter Try.func35, Try.ntmps35
  go_wp2
  go_ret
  exact ⟨by first | rfl | (simp; done) | (simp [*]; done), by repeat (first | exact Drawn0.refl _ | apply Drawn0.step)⟩
 ·rw [if_neg c3] at H
  have c3b0 : decide ((wrap64 (a1 - (l0.length : Int))) < 0) = false := decide_eq_false c3
  clear c3
  obtain rfl := Option.some.inj H
  go_enter Try.func35, Try.ntmps35
  go_wp2
  go_ret
  exact ⟨by first | rfl | (simp; done) | (simp [*]; done), by repeat (first | exact Drawn0.refl _ | apply Drawn0.step)⟩
end Go.Proofs.Ytphpdfcblchpnaa.Q
namespace Go.Proofs.Ytphpdfcblchpnaa.Q
open Go.RowKit Go.Proofs.YtphpdfcblchpnaaW.PrintWords Go.Proofs.YtphpdfcblchpnaaW.PrintLast Go.Proofs.YtphpdfcblchpnaaW.PrintMore
attribute [local go_sem] max2_int min2_int max_two min_two max_three min_three max_four min_four   -- for this text's walks alone
set_option linter.unusedVariables false
set_option linter.unusedSimpArgs false
def laws_toPeg.f (a0_0 : Int) (a0_1 : Int) : Option (Int × Int) := some (a0_0, a0_1)
set_option maxHeartbeats 8000000 in
set_option maxRecDepth 100000 in
theorem laws_toPeg.calls (a0_0 : Int) (a0_1 : Int) (r1 : Int) (r2 : Int) (w : World) (h : laws_toPeg.f a0_0 a0_1 = some (r1, r2)) :
  Calls Try.prog 114 #[.agg #[.int .i64 a0_0, .int .i64 a0_1]] w fun e w' => e = .returned (.agg #[.int .i64 r1, .int .i64 r2]) ∧ Below w.heap.size w w' := by
 have hu97 := Try.underlying97
 have hu26 := Try.underlying26
 have HB := Aside0.mk (Below.refl w.heap.size w)
 have H : (some (a0_0, a0_1)) = some (r1, r2) := h
 clear h
 simp only [Option.some.injEq, Prod.mk.injEq] at H
 obtain ⟨rfl, rfl⟩ := H
 go_enter Try.func114, Try.ntmps114
 go_wp2_with (first | ((with_reducible refine gate_dst (N := 1) rfl ?_); refine box_event ?hg (N := 1) ?hd (cs := #[.int .i64 a0_0, .int .i64 a0_1]) (t := 97) ?hr ?_; (case hd => rfl); (case hg => rfl); (case hr => first | (go_simp; done) | (go_simp; rfl)); intro gb894 hg w2 hbox hb; have n0_ := Aside0.mk (below_step zb hb); have n1_ := Aside0.mk (hbox); have n2_ := Aside0.mk ((by rw [hg]; exact (below_size zb) : w.heap.size ≤ gb894)); have n3_ := Aside0.mk ((by rw [hg]; exact (below_size zb) : w.heap.size ≤ gb894)); clear HB; have HB := n0_; have BK894 := n1_; have GW894 := n2_; have GE894 := n3_; clear n0_ n1_ n2_ n3_; clear hb hbox hg) | ((with_reducible refine gate_dst (N := 2) rfl ?_); refine box_event ?hg (N := 2) ?hd (cs := #[.int .i64 0, .int .i64 0]) (t := 26) ?hr ?_; (case hd => rfl); (case hg => rfl); (case hr => first | (go_simp; done) | (go_simp; rfl)); intro gb895 hg w3 hbox hb; have n0_ := Aside0.mk (blk_below (g := gb894) (o := .cells #[.int .i64 a0_0, .int .i64 a0_1] 97 (0, 0)) zk hb); have n1_ := Aside0.mk (below_step zb hb); have n2_ := Aside0.mk (hbox); have n3_ := Aside0.mk ((by rw [hg]; exact (below_size zb) : w.heap.size ≤ gb895)); have n4_ := Aside0.mk ((by rw [hg]; exact (below_size zb) : w.heap.size ≤ gb895)); have n5_ := Aside0.mk ((by rw [hg]; exact Nat.ne_of_lt (blk_lt (g := gb894) (o := .cells #[.int .i64 a0_0, .int .i64 a0_1] 97 (0, 0)) zk) : gb894 ≠ gb895)); have n6_ := Aside0.mk ((by rw [hg]; exact Nat.ne_of_gt (blk_lt (g := gb894) (o := .cells #[.int .i64 a0_0, .int .i64 a0_1] 97 (0, 0)) zk) : gb895 ≠ gb894)); clear BK894; clear HB; have BK894 := n0_; have HB := n1_; have BK895 := n2_; have GW895 := n3_; have GE895 := n4_; have NB894_895 := n5_; have NB895_894 := n6_; clear n0_ n1_ n2_ n3_ n4_ n5_ n6_; clear hb hbox hg) | ((with_reducible refine gate_dst (N := 3) rfl ?_); refine box_event ?hg (N := 3) ?hd (cs := #[.int .i64 0, .int .i64 0]) (t := 26) ?hr ?_; (case hd => rfl); (case hg => rfl); (case hr => first | (go_simp; done) | (go_simp; rfl)); intro gb896 hg w4 hbox hb; have n0_ := Aside0.mk (blk_below (g := gb894) (o := .cells #[.int .i64 a0_0, .int .i64 a0_1] 97 (0, 0)) zk hb); have n1_ := Aside0.mk (blk_below (g := gb895) (o := .cells #[.int .i64 0, .int .i64 0] 26 (0, 0)) zk hb); have n2_ := Aside0.mk (below_step zb hb); have n3_ := Aside0.mk (hbox); have n4_ := Aside0.mk ((by rw [hg]; exact (below_size zb) : w.heap.size ≤ gb896)); have n5_ := Aside0.mk ((by rw [hg]; exact (below_size zb) : w.heap.size ≤ gb896)); have n6_ := Aside0.mk ((by rw [hg]; exact Nat.ne_of_lt (blk_lt (g := gb894) (o := .cells #[.int .i64 a0_0, .int .i64 a0_1] 97 (0, 0)) zk) : gb894 ≠ gb896)); have n7_ := Aside0.mk ((by rw [hg]; exact Nat.ne_of_gt (blk_lt (g := gb894) (o := .cells #[.int .i64 a0_0, .int .i64 a0_1] 97 (0, 0)) zk) : gb896 ≠ gb894)); have n8_ := Aside0.mk ((by rw [hg]; exact Nat.ne_of_lt (blk_lt (g := gb895) (o := .cells #[.int .i64 0, .int .i64 0] 26 (0, 0)) zk) : gb895 ≠ gb896)); have n9_ := Aside0.mk ((by rw [hg]; exact Nat.ne_of_gt (blk_lt (g := gb895) (o := .cells #[.int .i64 0, .int .i64 0] 26 (0, 0)) zk) : gb896 ≠ gb895)); clear BK894; clear BK895; clear HB; have BK894 := n0_; have BK895 := n1_; have HB := n2_; have BK896 := n3_; have GW896 := n4_; have GE896 := n5_; have NB894_896 := n6_; have NB896_894 := n7_; have NB895_896 := n8_; have NB896_895 := n9_; clear n0_ n1_ n2_ n3_ n4_ n5_ n6_ n7_ n8_ n9_; clear hb hbox hg; have hnb5 := NB894_895.out; have hnc5 := NB895_894.out; have hnb6 := NB894_896.out; have hnc6 := NB896_894.out; have hcz7_0 : w4.cell? ⟨gb894, 0, none⟩ = some (.int .i64 a0_0) := (blk_cell BK894.out 0).trans rfl; have hcz7_1 : w4.cell? ⟨gb894, 1, none⟩ = some (.int .i64 a0_1) := (blk_cell BK894.out 1).trans rfl; have hfz7_0 := blk_frozen BK894.out 0; have hfz7_1 := blk_frozen BK894.out 1; have hnb8 := NB896_895.out; have hnc8 := NB895_896.out; have hcz9_0 : w4.cell? ⟨gb896, 0, none⟩ = some (.int .i64 0) := (blk_cell BK896.out 0).trans rfl; have hcz9_1 : w4.cell? ⟨gb896, 1, none⟩ = some (.int .i64 0) := (blk_cell BK896.out 1).trans rfl; have hfz9_0 := blk_frozen BK896.out 0; have hfz9_1 := blk_frozen BK896.out 1; have hcz10_0 : w4.cell? ⟨gb895, 0, none⟩ = some (.int .i64 0) := (blk_cell BK895.out 0).trans rfl; have hcz10_1 : w4.cell? ⟨gb895, 1, none⟩ = some (.int .i64 0) := (blk_cell BK895.out 1).trans rfl; have hfz10_0 := blk_frozen BK895.out 0; have hfz10_1 := blk_frozen BK895.out 1))
 refine bodyPost_ret (results_cell_row rfl _ _ gb895 26 #[.int .i64 a0_0, .int .i64 a0_1] (0, 0) _ rfl (by (with_reducible repeat (first | refine blk_drewN ?_ _ | refine blk_drew ?_ | refine blk_alloc ?_ _)); refine blk_put (cs := #[.int .i64 a0_0, .int .i64 0]) ?_ 1 _ rfl; (with_reducible repeat (first | refine blk_drewN ?_ _ | refine blk_drew ?_ | refine blk_alloc ?_ _)); refine blk_put (cs := #[.int .i64 0, .int .i64 0]) ?_ 0 _ rfl; (with_reducible repeat (first | refine blk_drewN ?_ _ | refine blk_drew ?_ | refine blk_alloc ?_ _)); refine blk_far ?_ NB895_896.out _; (with_reducible repeat (first | refine blk_drewN ?_ _ | refine blk_drew ?_ | refine blk_alloc ?_ _)); refine blk_far ?_ NB895_896.out _; (with_reducible repeat (first | refine blk_drewN ?_ _ | refine blk_drew ?_ | refine blk_alloc ?_ _)); exact BK895.out) Try.underlying26 rfl (by kernel_rfl)) rfl ?_
 exact ⟨by first | rfl | (simp [errW_none, errW_some] <;> rfl) | (simp [*, errW_none, errW_some] <;> rfl), zb⟩
def laws_toPegS.l0 : Nat → List (S97) → List (S26) → Int → Option ((List (S26)))
 | 0, _, _, _ => none
 | k + 1, x0, x3, x4 => if x4 < (x0.length : Int) then (if 0 ≤ x4 then ((laws_toPeg.f ((rd_T97 x0 x4).f0) ((rd_T97 x0 x4).f1)).bind fun bt901 => (if x4 < (x3.length : Int) then (laws_toPegS.l0 k x0 (x3.set (x4 : Int).toNat (⟨bt901.1, bt901.2⟩ : S26)) (wrap64 (x4 + 1))) else (none))) else (none)) else (some x3)
def laws_toPegS.f (k : Nat) (l0 : List (S97)) : Option ((List (S26))) := if 0 ≤ (l0.length : Int) then (if ((l0.length : Int) : Int).toNat ≤ 17592186044416 then (laws_toPegS.l0 k l0 (List.replicate ((l0.length : Int) : Int).toNat z26) 0) else (none)) else (none)
set_option maxHeartbeats 8000000 in
set_option maxRecDepth 100000 in
theorem laws_toPegS.calls (k : Nat) (A0 : Option Addr) (c0 : Nat) (l0 : List (S97)) (r : List (S26)) (w : World) (hr0 : Kd.C k97 w A0 l0.length l0) (hc0 : l0.length ≤ c0) (h : laws_toPegS.f k l0 = some r) :
  Calls Try.prog 37 #[.slice A0 l0.length c0] w fun e w' => ∃ v0_ : Value, e = .returned (v0_) ∧ Kd.R k26 26 w' w.heap.size (fun _ => True) v0_ r ∧ Below w.heap.size w w' := by
 have hu97 := Try.underlying97
 have hu26 := Try.underlying26
 have HR0 := Aside0.mk hr0
 have HC0 := Aside0.mk hc0
 clear hr0 hc0
 have HB := Aside0.mk (Below.refl w.heap.size w)
 have H : (if 0 ≤ (l0.length : Int) then (if ((l0.length : Int) : Int).toNat ≤ 17592186044416 then (laws_toPegS.l0 k l0 (List.replicate ((l0.length : Int) : Int).toNat z26) 0) else (none)) else (none)) = some r := h
 clear h
 by_cases c2 : 0 ≤ (l0.length : Int)
 ·rw [if_pos c2] at H
  have c2b0 := eq_true c2
  have c2b1 : decide (0 ≤ (l0.length : Int)) = true := decide_eq_true c2
  clear c2
  by_cases c3 : ((l0.length : Int) : Int).toNat ≤ 17592186044416
  ·rw [if_pos c3] at H
   have c3b0 := eq_true c3
   have c3b1 : decide (((l0.length : Int) : Int).toNat ≤ 17592186044416) = true := decide_eq_true c3
   clear c3
   obtain ⟨y897, hy897⟩ : ∃ y_ : List (S26), y_ = (List.replicate ((l0.length : Int) : Int).toNat z26) := ⟨_, rfl⟩
   replace H : (laws_toPegS.l0 k l0 y897 0) = some r := by first | (rw [hy897]; with_reducible exact H) | (have H2_ := (Option.bind_some _ _).symm.trans H; rw [hy897]; with_reducible exact H2_) | (have H2_ := (Option.bind_some _ _).symm.trans H; with_reducible exact H2_) | with_reducible exact H | (rw [hy897]; exact H) | exact H
   have Ny897 := Aside0.mk hy897
   clear hy897
   have H' := Aside0.mk H
   clear H
   go_enter Try.func37, Try.ntmps37
   go_wp2_with (first | ((with_reducible refine gate_dst (N := 7) rfl ?_); refine Kd.R_make k26 _ 26 rfl (N := 7) rfl 24 _ _ rfl (l0.length : Int) rfl rfl Try.underlying24 (.agg #[(.int .i64 0), (.int .i64 0)]) 16 info26 rfl (by decide) (by omega) z26 (ok := fun _ => True) (okp := fun _ => True) (k26_mkM _ _ _ z26 ) (fun _ hk => hk) trivial (of_decide_eq_true (by first | (with_reducible assumption) | assumption)) (Nat.le_trans (Nat.mul_le_mul_right _ (of_decide_eq_true (by first | (with_reducible assumption) | assumption) : (l0.length : Int).toNat ≤ 17592186044416)) (by omega)) (Below.refl _ _) (Nat.le_refl _) ?_; intro v898 w4 ho5 hb hg_ hnew_; clear hg_ hnew_; (first | rw [← Ny897.out] at ho5 | (simp only [Int.reduceToNat] at ho5; rw [← Ny897.out] at ho5)); have n0_ := Aside0.mk (Kd.R_lower ho5 (below_size zb)); have n1_ := Aside0.mk (below_step zb hb); clear HB; have HO899 := n0_; have HB := n1_; clear n0_ n1_; clear hb ho5))
   go_loopg [4] k (fun kq v4 w' => ∃ (x3_1 : List (S26)) (x4_1 : Int), v4 = .int .i64 x4_1 ∧ Aside0 (laws_toPegS.l0 kq l0 x3_1 x4_1 = some r) ∧ Aside0 (kq ≤ k) ∧ Aside0 (Kd.R k26 26 w' w.heap.size (fun _ => True) v898 x3_1) ∧ Aside0 (Below w.heap.size w w'))
   case atStart => exact ⟨(y897), (0), (by first | rfl | (simp; done) | (simp [*]; done)), H', ⟨Nat.le_refl _⟩, ⟨by (with_reducible repeat (first | apply Kd.R_alloc | apply Kd.R_drewN | apply Kd.R_drew)); exact HO899.out⟩, ⟨zb⟩⟩
   case round =>
    clear H'
    try clear c2
    try clear c2b0
    try clear c2b1
    try clear p2
    try clear c3
    try clear c3b0
    try clear c3b1
    obtain ⟨x3_1, x4_1, rfl, HA, HK1, HO_3, HB⟩ := hrel
    cases gk with
    | zero => exact absurd HA.out (by simp [laws_toPegS.l0])
    | succ k1 =>
     have H := HA.out
     clear HA
     simp only [laws_toPegS.l0] at H
     by_cases c6 : x4_1 < (l0.length : Int)
     ·rw [if_pos c6] at H
      have c6b0 : decide (x4_1 < (l0.length : Int)) = true := decide_eq_true c6
      clear c6
      by_cases c7 : 0 ≤ x4_1
      ·rw [if_pos c7] at H
       have c7b0 : decide (0 ≤ x4_1) = true := decide_eq_true c7
       clear c7
       replace H := Option.bind_eq_some_iff.mp H
       obtain ⟨⟨t901, t902⟩, A80, H⟩ := H
       replace H : (if x4_1 < (x3_1.length : Int) then (laws_toPegS.l0 k1 l0 (x3_1.set (x4_1 : Int).toNat (⟨t901, t902⟩ : S26)) (wrap64 (x4_1 + 1))) else (none)) = some r := H
       have A8 := Aside0.mk A80
       clear A80
       by_cases c9 : x4_1 < (x3_1.length : Int)
       ·rw [if_pos c9] at H
        have c9b0 : decide (x4_1 < (x3_1.length : Int)) = true := decide_eq_true c9
        clear c9
        obtain ⟨y903, hy903⟩ : ∃ y_ : List (S26), y_ = (x3_1.set (x4_1 : Int).toNat (⟨t901, t902⟩ : S26)) := ⟨_, rfl⟩
        replace H : (laws_toPegS.l0 k1 l0 y903 (wrap64 (x4_1 + 1))) = some r := by first | (rw [hy903]; with_reducible exact H) | (have H2_ := (Option.bind_some _ _).symm.trans H; rw [hy903]; with_reducible exact H2_) | (have H2_ := (Option.bind_some _ _).symm.trans H; with_reducible exact H2_) | with_reducible exact H | (rw [hy903]; exact H) | exact H
        have Ny903 := Aside0.mk hy903
        clear hy903
        have H' := Aside0.mk H
        clear H
        have p900 : 0 ≤ (x4_1 : Int) := of_decide_eq_true (by first | (with_reducible assumption) | assumption)
        have q900 : x4_1 < (l0.length : Int) := of_decide_eq_true (by first | (with_reducible assumption) | assumption)
        obtain ⟨ad900, e900, hx900_0, hx900_1⟩ := at_T97 HR0.out x4_1 p900 q900
        cases e900
        replace hx900_0 := zc HB hx900_0
        replace hx900_1 := zc HB hx900_1
        replace p900 := eq_true p900
        replace q900 := eq_true q900
        go_wp2_with (first | ((with_reducible refine gate_callee (f := 114) rfl ?_); refine goesL_ (some 20) rfl rfl Try.func114 (by kernel_rfl) rfl #[.agg #[.int .i64 ((rd_T97 l0 x4_1).f0), .int .i64 ((rd_T97 l0 x4_1).f1)]] rfl zn ?_; (with_reducible refine (laws_toPeg.calls ((rd_T97 l0 x4_1).f0) ((rd_T97 l0 x4_1).f1) t901 t902 _ A8.out).mono ?_); rintro e w11 ⟨rfl, hb⟩; refine ⟨_, rfl, ?_⟩; have n0_ := Aside0.mk (Kd.R_below (by (with_reducible repeat (first | apply Kd.R_alloc | apply Kd.R_drewN | apply Kd.R_drew)); exact HO_3.out) hb); have n1_ := Aside0.mk (below_step zb hb); clear HO_3; clear HB; have HO_3 := n0_; have HB := n1_; clear n0_ n1_; (try clear hb); (try clear hb2); (try clear hk); (try clear hi); have p10 : 0 ≤ (x4_1 : Int) := of_decide_eq_true (by first | (with_reducible assumption) | assumption); have q10 : (x4_1 : Int) < ((x3_1.length : Int) : Int) := of_decide_eq_true (by first | (with_reducible assumption) | assumption); obtain ⟨go10, co10, eo10, gb10, gl10, cl10, HG10⟩ := Kd.R_form HO_3.out (by omega); (first | cases eo10 | (injection eo10 with ea_ en_ ec_; (first | subst ea_ | (injection ea_ with ea_; subst ea_)); subst ec_; clear en_)); have GB10 := Aside0.mk gb10; have GG10 := Aside0.mk HG10; clear gb10 gl10 HG10; obtain ⟨ce10, hcl10, hM10, hcc10, hfr10⟩ := Kd.R_elem HO_3.out z26 (x4_1 : Int) p10 q10; obtain rfl := k26_openM hM10; have hx10_0 : w11.cell? ⟨go10, (x4_1 : Int).toNat * 2, none⟩ = some (.int .i64 ((rd_T26 x3_1 x4_1).f0)) := hcc10 0 _ rfl; have hx10_1 : w11.cell? ⟨go10, (x4_1 : Int).toNat * 2 + 1, none⟩ = some (.int .i64 ((rd_T26 x3_1 x4_1).f1)) := hcc10 1 _ rfl; have hf10_0 : w11.frozen? ⟨go10, (x4_1 : Int).toNat * 2, none⟩ = false := hfr10 0; have hf10_1 : w11.frozen? ⟨go10, (x4_1 : Int).toNat * 2 + 1, none⟩ = false := hfr10 1; clear hcl10 hcc10 hfr10 hM10; replace p10 := eq_true p10; replace q10 := eq_true q10; have HX12 := Aside0.mk (show Kd.R k26 26 w11 w.heap.size (fun _ => True) (.slice (some ⟨go10, 0, none⟩) x3_1.length co10) x3_1 from (by (with_reducible repeat (first | apply Kd.R_alloc | apply Kd.R_drewN | apply Kd.R_drew)); exact HO_3.out)); obtain ⟨ce12, hcl12, hM12, hcc12, hfr12⟩ := Kd.R_elem HX12.out z26 (x4_1 : Int) (of_decide_eq_true (by first | (with_reducible assumption) | assumption)) (by have h_ : (x4_1 : Int) < ((x3_1.length : Int) : Int) := of_decide_eq_true (by first | (with_reducible assumption) | assumption); first | exact h_ | (have e_ := (Kd.R_reads' HO_3.out).1; omega) | simpa using h_); obtain rfl := k26_openM hM12; have HP12 := Kd.R_seg HX12.out (x4_1 : Int) (of_decide_eq_true (by first | (with_reducible assumption) | assumption)) (by have h_ : (x4_1 : Int) < ((x3_1.length : Int) : Int) := of_decide_eq_true (by first | (with_reducible assumption) | assumption); first | exact h_ | (have e_ := (Kd.R_reads' HO_3.out).1; omega) | simpa using h_) (seg := [.int .i64 t901, .int .i64 t902]) (j := 0) hcl12 hcc12 (show 2 ≤ 2 from by decide) (x' := (⟨t901, t902⟩ : S26)) (k26_mkM _ _ _ (⟨t901, t902⟩ : S26) ) (fun _ hk => hk); have hx12_0 := hcc12 0 _ rfl; (try simp only [show (k26).sz = 2 from rfl, Nat.mul_one, Nat.add_zero] at hx12_0); have hf12_0 := hfr12 0; (try simp only [show (k26).sz = 2 from rfl, Nat.mul_one, Nat.add_zero] at hf12_0); have hx12_1 := hcc12 1 _ rfl; (try simp only [show (k26).sz = 2 from rfl, Nat.mul_one, Nat.add_zero] at hx12_1); have hf12_1 := hfr12 1; (try simp only [show (k26).sz = 2 from rfl, Nat.mul_one, Nat.add_zero] at hf12_1); clear hcl12 hcc12 hfr12 hM12) | ((with_reducible refine gate_store (t := 26) (p := 21) rfl ?_); refine store_event (t := 26) (p := 21) (v := ?vo_w13) (w1 := ((w11.setCell ⟨go10, (x4_1 : Int).toNat * 2, none⟩ (.int .i64 t901)).setCell ⟨go10, (x4_1 : Int).toNat * 2 + 1, none⟩ (.int .i64 t902))) ?hg ?ho ?hn ?hr ?_; (case ho => rfl); (case hg => rfl); (case hn => rfl); (case hr => first | (go_simp; done) | (go_simp; rfl)); intro w13 hw; have hg : w11.grownBy w13 (some go10) := (by rw [hw]; exact HP12.2); have hp_ : Kd.R k26 26 w13 w.heap.size (fun _ => True) (.slice (some ⟨go10, 0, none⟩) x3_1.length co10) y903 := (by rw [hw, Ny903.out]; exact HP12.1); clear HP12; have n0_ := Aside0.mk (hp_); have n1_ := Aside0.mk ((by rw [hw]; exact below_set (below_set (HB.out) GB10.out) GB10.out : Below w.heap.size w w13)); clear HO_3; clear HB; have HO_3 := n0_; have HB := n1_; clear n0_ n1_; clear hg hw hp_))
        go_roundg k1
        case measure => have := HK1.out; omega
        case rel => exact ⟨(y903), (wrap64 (x4_1 + 1)), (by first | rfl | (simp; done) | (simp [*]; done)), H', ⟨by have := HK1.out; omega⟩, ⟨by (with_reducible repeat (first | apply Kd.R_alloc | apply Kd.R_drewN | apply Kd.R_drew)); exact HO_3.out⟩, ⟨zb⟩⟩
       ·rw [if_neg c9] at H
        exact absurd H (by simp)
      ·rw [if_neg c7] at H
       exact absurd H (by simp)
     ·rw [if_neg c6] at H
      have c6b0 : decide (x4_1 < (l0.length : Int)) = false := decide_eq_false c6
      clear c6
      obtain rfl := Option.some.inj H
      go_wp2
      go_ret
      exact ⟨_, by first | rfl | (simp [errW_none, errW_some] <;> rfl) | (simp [*, errW_none, errW_some] <;> rfl), by (with_reducible repeat (first | apply Kd.R_alloc | apply Kd.R_drewN | apply Kd.R_drew)); exact HO_3.out, zb⟩
  ·rw [if_neg c3] at H
   exact absurd H (by simp)
 ·rw [if_neg c2] at H
  exact absurd H (by simp)
end Go.Proofs.Ytphpdfcblchpnaa.Q
namespace Go.Proofs.Ytphpdfcblchpnaa.Q
open Go.RowKit Go.Proofs.YtphpdfcblchpnaaW.PrintWords Go.Proofs.YtphpdfcblchpnaaW.PrintLast Go.Proofs.YtphpdfcblchpnaaW.PrintMore
attribute [local go_sem] max2_int min2_int max_two min_two max_three min_three max_four min_four   -- for this text's walks alone
set_option linter.unusedVariables false
set_option linter.unusedSimpArgs false
def laws_eqPeg.f (a0_0 : Int) (a0_1 : Int) (a1_0 : Int) (a1_1 : Int) : Option (Bool) := if a0_0 = a1_0 then (if a0_1 = a1_1 then (some true) else (some false)) else (some false)
set_option maxHeartbeats 8000000 in
set_option maxRecDepth 100000 in
theorem laws_eqPeg.calls (a0_0 : Int) (a0_1 : Int) (a1_0 : Int) (a1_1 : Int) (r : Bool) (w : World) (h : laws_eqPeg.f a0_0 a0_1 a1_0 a1_1 = some r) :
  Calls Try.prog 160 #[.agg #[.int .i64 a0_0, .int .i64 a0_1], .agg #[.int .i64 a1_0, .int .i64 a1_1]] w fun e w' => e = .returned (.bool r) ∧ Below w.heap.size w w' := by
 have hu26 := Try.underlying26
 have HB := Aside0.mk (Below.refl w.heap.size w)
 have H : (if a0_0 = a1_0 then (if a0_1 = a1_1 then (some true) else (some false)) else (some false)) = some r := h
 clear h
 by_cases c3 : a0_0 = a1_0
 ·rw [if_pos c3] at H
  have c3b0 : (a0_0 == a1_0) = true := beq_iff_eq.mpr c3
  have c3b1 : (a0_0 != a1_0) = false := bne_eq_false_iff_eq.mpr c3
  clear c3
  by_cases c4 : a0_1 = a1_1
  ·rw [if_pos c4] at H
   have c4b0 : (a0_1 == a1_1) = true := beq_iff_eq.mpr c4
   have c4b1 : (a0_1 != a1_1) = false := bne_eq_false_iff_eq.mpr c4
   clear c4
   obtain rfl := Option.some.inj H
   go_enter Try.func160, Try.ntmps160
   go_wp2_with (first | ((with_reducible refine gate_dst (N := 2) rfl ?_); refine box_event ?hg (N := 2) ?hd (cs := #[.int .i64 a0_0, .int .i64 a0_1]) (t := 26) ?hr ?_; (case hd => rfl); (case hg => rfl); (case hr => first | (go_simp; done) | (go_simp; rfl)); intro gb1008 hg w5 hbox hb; have n0_ := Aside0.mk (below_step zb hb); have n1_ := Aside0.mk (hbox); have n2_ := Aside0.mk ((by rw [hg]; exact (below_size zb) : w.heap.size ≤ gb1008)); have n3_ := Aside0.mk ((by rw [hg]; exact (below_size zb) : w.heap.size ≤ gb1008)); clear HB; have HB := n0_; have BK1008 := n1_; have GW1008 := n2_; have GE1008 := n3_; clear n0_ n1_ n2_ n3_; clear hb hbox hg) | ((with_reducible refine gate_dst (N := 3) rfl ?_); refine box_event ?hg (N := 3) ?hd (cs := #[.int .i64 a1_0, .int .i64 a1_1]) (t := 26) ?hr ?_; (case hd => rfl); (case hg => rfl); (case hr => first | (go_simp; done) | (go_simp; rfl)); intro gb1009 hg w6 hbox hb; have n0_ := Aside0.mk (blk_below (g := gb1008) (o := .cells #[.int .i64 a0_0, .int .i64 a0_1] 26 (0, 0)) zk hb); have n1_ := Aside0.mk (below_step zb hb); have n2_ := Aside0.mk (hbox); have n3_ := Aside0.mk ((by rw [hg]; exact (below_size zb) : w.heap.size ≤ gb1009)); have n4_ := Aside0.mk ((by rw [hg]; exact (below_size zb) : w.heap.size ≤ gb1009)); have n5_ := Aside0.mk ((by rw [hg]; exact Nat.ne_of_lt (blk_lt (g := gb1008) (o := .cells #[.int .i64 a0_0, .int .i64 a0_1] 26 (0, 0)) zk) : gb1008 ≠ gb1009)); have n6_ := Aside0.mk ((by rw [hg]; exact Nat.ne_of_gt (blk_lt (g := gb1008) (o := .cells #[.int .i64 a0_0, .int .i64 a0_1] 26 (0, 0)) zk) : gb1009 ≠ gb1008)); clear BK1008; clear HB; have BK1008 := n0_; have HB := n1_; have BK1009 := n2_; have GW1009 := n3_; have GE1009 := n4_; have NB1008_1009 := n5_; have NB1009_1008 := n6_; clear n0_ n1_ n2_ n3_ n4_ n5_ n6_; clear hb hbox hg; have hnb7 := NB1008_1009.out; have hnc7 := NB1009_1008.out; have hcz8_0 : w6.cell? ⟨gb1008, 0, none⟩ = some (.int .i64 a0_0) := (blk_cell BK1008.out 0).trans rfl; have hcz8_1 : w6.cell? ⟨gb1008, 1, none⟩ = some (.int .i64 a0_1) := (blk_cell BK1008.out 1).trans rfl; have hfz8_0 := blk_frozen BK1008.out 0; have hfz8_1 := blk_frozen BK1008.out 1; have hcz9_0 : w6.cell? ⟨gb1009, 0, none⟩ = some (.int .i64 a1_0) := (blk_cell BK1009.out 0).trans rfl; have hcz9_1 : w6.cell? ⟨gb1009, 1, none⟩ = some (.int .i64 a1_1) := (blk_cell BK1009.out 1).trans rfl; have hfz9_0 := blk_frozen BK1009.out 0; have hfz9_1 := blk_frozen BK1009.out 1))
   go_ret
   exact ⟨by first | rfl | (simp [errW_none, errW_some] <;> rfl) | (simp [*, errW_none, errW_some] <;> rfl), zb⟩
  ·rw [if_neg c4] at H
   have c4b0 : (a0_1 == a1_1) = false := beq_eq_false_iff_ne.mpr c4
   have c4b1 : (a0_1 != a1_1) = true := bne_iff_ne.mpr c4
   obtain rfl := Option.some.inj H
   go_enter Try.func160, Try.ntmps160
   go_wp2_with (first | ((with_reducible refine gate_dst (N := 2) rfl ?_); refine box_event ?hg (N := 2) ?hd (cs := #[.int .i64 a0_0, .int .i64 a0_1]) (t := 26) ?hr ?_; (case hd => rfl); (case hg => rfl); (case hr => first | (go_simp; done) | (go_simp; rfl)); intro gb1008 hg w10 hbox hb; have n0_ := Aside0.mk (below_step zb hb); have n1_ := Aside0.mk (hbox); have n2_ := Aside0.mk ((by rw [hg]; exact (below_size zb) : w.heap.size ≤ gb1008)); have n3_ := Aside0.mk ((by rw [hg]; exact (below_size zb) : w.heap.size ≤ gb1008)); clear HB; have HB := n0_; have BK1008 := n1_; have GW1008 := n2_; have GE1008 := n3_; clear n0_ n1_ n2_ n3_; clear hb hbox hg) | ((with_reducible refine gate_dst (N := 3) rfl ?_); refine box_event ?hg (N := 3) ?hd (cs := #[.int .i64 a1_0, .int .i64 a1_1]) (t := 26) ?hr ?_; (case hd => rfl); (case hg => rfl); (case hr => first | (go_simp; done) | (go_simp; rfl)); intro gb1009 hg w11 hbox hb; have n0_ := Aside0.mk (blk_below (g := gb1008) (o := .cells #[.int .i64 a0_0, .int .i64 a0_1] 26 (0, 0)) zk hb); have n1_ := Aside0.mk (below_step zb hb); have n2_ := Aside0.mk (hbox); have n3_ := Aside0.mk ((by rw [hg]; exact (below_size zb) : w.heap.size ≤ gb1009)); have n4_ := Aside0.mk ((by rw [hg]; exact (below_size zb) : w.heap.size ≤ gb1009)); have n5_ := Aside0.mk ((by rw [hg]; exact Nat.ne_of_lt (blk_lt (g := gb1008) (o := .cells #[.int .i64 a0_0, .int .i64 a0_1] 26 (0, 0)) zk) : gb1008 ≠ gb1009)); have n6_ := Aside0.mk ((by rw [hg]; exact Nat.ne_of_gt (blk_lt (g := gb1008) (o := .cells #[.int .i64 a0_0, .int .i64 a0_1] 26 (0, 0)) zk) : gb1009 ≠ gb1008)); clear BK1008; clear HB; have BK1008 := n0_; have HB := n1_; have BK1009 := n2_; have GW1009 := n3_; have GE1009 := n4_; have NB1008_1009 := n5_; have NB1009_1008 := n6_; clear n0_ n1_ n2_ n3_ n4_ n5_ n6_; clear hb hbox hg; have hnb12 := NB1008_1009.out; have hnc12 := NB1009_1008.out; have hcz13_0 : w11.cell? ⟨gb1008, 0, none⟩ = some (.int .i64 a0_0) := (blk_cell BK1008.out 0).trans rfl; have hcz13_1 : w11.cell? ⟨gb1008, 1, none⟩ = some (.int .i64 a0_1) := (blk_cell BK1008.out 1).trans rfl; have hfz13_0 := blk_frozen BK1008.out 0; have hfz13_1 := blk_frozen BK1008.out 1; have hcz14_0 : w11.cell? ⟨gb1009, 0, none⟩ = some (.int .i64 a1_0) := (blk_cell BK1009.out 0).trans rfl; have hcz14_1 : w11.cell? ⟨gb1009, 1, none⟩ = some (.int .i64 a1_1) := (blk_cell BK1009.out 1).trans rfl; have hfz14_0 := blk_frozen BK1009.out 0; have hfz14_1 := blk_frozen BK1009.out 1))
   go_ret
   exact ⟨by first | rfl | (simp [errW_none, errW_some] <;> rfl) | (simp [*, errW_none, errW_some] <;> rfl), zb⟩
 ·rw [if_neg c3] at H
  have c3b0 : (a0_0 == a1_0) = false := beq_eq_false_iff_ne.mpr c3
  have c3b1 : (a0_0 != a1_0) = true := bne_iff_ne.mpr c3
  obtain rfl := Option.some.inj H
  go_enter Try.func160, Try.ntmps160
  go_wp2_with (first | ((with_reducible refine gate_dst (N := 2) rfl ?_); refine box_event ?hg (N := 2) ?hd (cs := #[.int .i64 a0_0, .int .i64 a0_1]) (t := 26) ?hr ?_; (case hd => rfl); (case hg => rfl); (case hr => first | (go_simp; done) | (go_simp; rfl)); intro gb1008 hg w15 hbox hb; have n0_ := Aside0.mk (below_step zb hb); have n1_ := Aside0.mk (hbox); have n2_ := Aside0.mk ((by rw [hg]; exact (below_size zb) : w.heap.size ≤ gb1008)); have n3_ := Aside0.mk ((by rw [hg]; exact (below_size zb) : w.heap.size ≤ gb1008)); clear HB; have HB := n0_; have BK1008 := n1_; have GW1008 := n2_; have GE1008 := n3_; clear n0_ n1_ n2_ n3_; clear hb hbox hg) | ((with_reducible refine gate_dst (N := 3) rfl ?_); refine box_event ?hg (N := 3) ?hd (cs := #[.int .i64 a1_0, .int .i64 a1_1]) (t := 26) ?hr ?_; (case hd => rfl); (case hg => rfl); (case hr => first | (go_simp; done) | (go_simp; rfl)); intro gb1009 hg w16 hbox hb; have n0_ := Aside0.mk (blk_below (g := gb1008) (o := .cells #[.int .i64 a0_0, .int .i64 a0_1] 26 (0, 0)) zk hb); have n1_ := Aside0.mk (below_step zb hb); have n2_ := Aside0.mk (hbox); have n3_ := Aside0.mk ((by rw [hg]; exact (below_size zb) : w.heap.size ≤ gb1009)); have n4_ := Aside0.mk ((by rw [hg]; exact (below_size zb) : w.heap.size ≤ gb1009)); have n5_ := Aside0.mk ((by rw [hg]; exact Nat.ne_of_lt (blk_lt (g := gb1008) (o := .cells #[.int .i64 a0_0, .int .i64 a0_1] 26 (0, 0)) zk) : gb1008 ≠ gb1009)); have n6_ := Aside0.mk ((by rw [hg]; exact Nat.ne_of_gt (blk_lt (g := gb1008) (o := .cells #[.int .i64 a0_0, .int .i64 a0_1] 26 (0, 0)) zk) : gb1009 ≠ gb1008)); clear BK1008; clear HB; have BK1008 := n0_; have HB := n1_; have BK1009 := n2_; have GW1009 := n3_; have GE1009 := n4_; have NB1008_1009 := n5_; have NB1009_1008 := n6_; clear n0_ n1_ n2_ n3_ n4_ n5_ n6_; clear hb hbox hg; have hnb17 := NB1008_1009.out; have hnc17 := NB1009_1008.out; have hcz18_0 : w16.cell? ⟨gb1008, 0, none⟩ = some (.int .i64 a0_0) := (blk_cell BK1008.out 0).trans rfl; have hcz18_1 : w16.cell? ⟨gb1008, 1, none⟩ = some (.int .i64 a0_1) := (blk_cell BK1008.out 1).trans rfl; have hfz18_0 := blk_frozen BK1008.out 0; have hfz18_1 := blk_frozen BK1008.out 1; have hcz19_0 : w16.cell? ⟨gb1009, 0, none⟩ = some (.int .i64 a1_0) := (blk_cell BK1009.out 0).trans rfl; have hcz19_1 : w16.cell? ⟨gb1009, 1, none⟩ = some (.int .i64 a1_1) := (blk_cell BK1009.out 1).trans rfl; have hfz19_0 := blk_frozen BK1009.out 0; have hfz19_1 := blk_frozen BK1009.out 1))
  go_ret
  exact ⟨by first | rfl | (simp [errW_none, errW_some] <;> rfl) | (simp [*, errW_none, errW_some] <;> rfl), zb⟩
end Go.Proofs.Ytphpdfcblchpnaa.Q
namespace Go.Proofs.Ytphpdfcblchpnaa.Q
open Go.RowKit Go.Proofs.YtphpdfcblchpnaaW.PrintWords Go.Proofs.YtphpdfcblchpnaaW.PrintLast Go.Proofs.YtphpdfcblchpnaaW.PrintMore
attribute [local go_sem] max2_int min2_int max_two min_two max_three min_three max_four min_four   -- for this text's walks alone
set_option linter.unusedVariables false
set_option linter.unusedSimpArgs false
def laws_eqPegS.l0 : Nat → List (S26) → List (S26) → Int → Option (Bool)
 | 0, _, _, _ => none
 | k + 1, x0, x1, x5 => if x5 < (x0.length : Int) then (if 0 ≤ x5 then (if x5 < (x1.length : Int) then ((laws_eqPeg.f ((rd_T26 x0 x5).f0) ((rd_T26 x0 x5).f1) ((rd_T26 x1 x5).f0) ((rd_T26 x1 x5).f1)).bind fun t1012 => (if t1012 = true then (laws_eqPegS.l0 k x0 x1 (wrap64 (x5 + 1))) else (some false))) else (none)) else (none)) else (some true)
def laws_eqPegS.f (k : Nat) (l0 : List (S26)) (l1 : List (S26)) : Option (Bool) := if (l0.length : Int) = (l1.length : Int) then (laws_eqPegS.l0 k l0 l1 0) else (some false)
def laws_eqPegS.T6 : Bool × List (List Nat × List Nat) := (true, [([], []), ([], []), ([0, 1], [0, 1]), ([2], [2]), ([], []), ([], []), ([4, 5], [4, 5]), ([6], [6]), ([3, 7], [3, 7]), ([8], [8])])
def laws_eqPegS.B6 : List Nat := [0, 0, 3, 7, 0, 0, 48, 112, 255, 511]
theorem laws_eqPegS.tab6 : rtab .any (opsOf Try.f39 6) = laws_eqPegS.T6 := by kernel_rfl
theorem laws_eqPegS.bits6 : waitsOk laws_eqPegS.T6.2 laws_eqPegS.B6 = true := by kernel_rfl
set_option maxHeartbeats 8000000 in
set_option maxRecDepth 100000 in
theorem laws_eqPegS.calls (k : Nat) (A0 : Option Addr) (c0 : Nat) (l0 : List (S26)) (A1 : Option Addr) (c1 : Nat) (l1 : List (S26)) (r : Bool) (w : World) (hr0 : Kd.C k26 w A0 l0.length l0) (hc0 : l0.length ≤ c0) (hr1 : Kd.C k26 w A1 l1.length l1) (hc1 : l1.length ≤ c1) (h : laws_eqPegS.f k l0 l1 = some r) :
  Calls Try.prog 39 #[.slice A0 l0.length c0, .slice A1 l1.length c1] w fun e w' => e = .returned (.bool r) ∧ Below w.heap.size w w' := by
 have hu26 := Try.underlying26
 have HR0 := Aside0.mk hr0
 have HC0 := Aside0.mk hc0
 clear hr0 hc0
 have HR1 := Aside0.mk hr1
 have HC1 := Aside0.mk hc1
 clear hr1 hc1
 have HB := Aside0.mk (Below.refl w.heap.size w)
 have H : (if (l0.length : Int) = (l1.length : Int) then (laws_eqPegS.l0 k l0 l1 0) else (some false)) = some r := h
 clear h
 by_cases c3 : (l0.length : Int) = (l1.length : Int)
 ·rw [if_pos c3] at H
  have c3b0 : ((l0.length : Int) == (l1.length : Int)) = true := beq_iff_eq.mpr c3
  have c3b1 : ((l0.length : Int) != (l1.length : Int)) = false := bne_eq_false_iff_eq.mpr c3
  have c3b2 : (l0.length == l1.length) = true := by first | simpa using c3 | (simp at c3 ⊢; omega)
  clear c3
  have H' := Aside0.mk H
  clear H
  go_enter Try.func39, Try.ntmps39
  go_wp2
  go_loopg [5] k (fun kq v5 w' => ∃ (x5_1 : Int), v5 = .int .i64 x5_1 ∧ Aside0 (laws_eqPegS.l0 kq l0 l1 x5_1 = some r) ∧ Aside0 (kq ≤ k) ∧ Aside0 (Below w.heap.size w w'))
  case atStart => exact ⟨(0), (by first | rfl | (simp; done) | (simp [*]; done)), H', ⟨Nat.le_refl _⟩, ⟨zb⟩⟩
  case round =>
   clear H'
   try clear c1
   try clear p2
   try clear c3
   try clear c3b0
   try clear c3b1
   try clear c3b2
   obtain ⟨x5_1, rfl, HA, HK1, HB⟩ := hrel
   cases gk with
   | zero => exact absurd HA.out (by simp [laws_eqPegS.l0])
   | succ k1 =>
    have H := HA.out
    clear HA
    simp only [laws_eqPegS.l0] at H
    by_cases c4 : x5_1 < (l0.length : Int)
    ·rw [if_pos c4] at H
     have c4b0 : decide (x5_1 < (l0.length : Int)) = true := decide_eq_true c4
     clear c4
     by_cases c5 : 0 ≤ x5_1
     ·rw [if_pos c5] at H
      have c5b0 : decide (0 ≤ x5_1) = true := decide_eq_true c5
      clear c5
      by_cases c6 : x5_1 < (l1.length : Int)
      ·rw [if_pos c6] at H
       have c6b0 : decide (x5_1 < (l1.length : Int)) = true := decide_eq_true c6
       clear c6
       replace H := Option.bind_eq_some_iff.mp H
       obtain ⟨t1012, A70, H⟩ := H
       replace H : (if t1012 = true then (laws_eqPegS.l0 k1 l0 l1 (wrap64 (x5_1 + 1))) else (some false)) = some r := H
       have A7 := Aside0.mk A70
       clear A70
       by_cases c8 : t1012 = true
       ·subst c8
        have H1 : (laws_eqPegS.l0 k1 l0 l1 (wrap64 (x5_1 + 1))) = some r := by rw [if_pos rfl] at H; exact H
        clear H
        have H := H1
        clear H1
        have H' := Aside0.mk H
        clear H
        try go_wp2
        have n0_ := Aside0.mk (below_drew1 HB.out)
        clear HB
        have HB := n0_
        clear n0_
        have p1010 : 0 ≤ (x5_1 : Int) := of_decide_eq_true (by first | (with_reducible assumption) | assumption)
        have q1010 : x5_1 < (l0.length : Int) := of_decide_eq_true (by first | (with_reducible assumption) | assumption)
        obtain ⟨ad1010, e1010, hx1010_0, hx1010_1⟩ := at_T26 HR0.out x5_1 p1010 q1010
        have hw1010_1 := hx1010_1
        have hw1010_0 := hx1010_0
        cases e1010
        replace hx1010_0 := zc HB hx1010_0
        replace hx1010_1 := zc HB hx1010_1
        replace p1010 := eq_true p1010
        replace q1010 := eq_true q1010
        have p1011 : 0 ≤ (x5_1 : Int) := of_decide_eq_true (by first | (with_reducible assumption) | assumption)
        have q1011 : x5_1 < (l1.length : Int) := of_decide_eq_true (by first | (with_reducible assumption) | assumption)
        obtain ⟨ad1011, e1011, hx1011_0, hx1011_1⟩ := at_T26 HR1.out x5_1 p1011 q1011
        have hw1011_1 := hx1011_1
        have hw1011_0 := hx1011_0
        cases e1011
        replace hx1011_0 := zc HB hx1011_0
        replace hx1011_1 := zc HB hx1011_1
        replace p1011 := eq_true p1011
        replace q1011 := eq_true q1011
        refine start_ (n := 10) (S := fun w' => w'.cell? (ad1010.add ((x5_1).toNat * 2)) = some (.int .i64 ((rd_T26 l0 x5_1).f0)) ∧ w'.cell? ⟨(ad1010.add ((x5_1).toNat * 2)).block, (ad1010.add ((x5_1).toNat * 2)).off + 1, none⟩ = some (.int .i64 ((rd_T26 l0 x5_1).f1)) ∧ w'.cell? (ad1011.add ((x5_1).toNat * 2)) = some (.int .i64 ((rd_T26 l1 x5_1).f0)) ∧ w'.cell? ⟨(ad1011.add ((x5_1).toNat * 2)).block, (ad1011.add ((x5_1).toNat * 2)).off + 1, none⟩ = some (.int .i64 ((rd_T26 l1 x5_1).f1))) (ds := []) (zl 10 0) (by kernel_rfl) rfl rfl ⟨(zc HB hw1010_0), (zc HB hw1010_1), (zc HB hw1011_0), (zc HB hw1011_1)⟩ (fun hHeld => ?_); refine with_tabW laws_eqPegS.tab6 laws_eqPegS.bits6 (fun HT_ HW_ => ?_)
        generalize wr.drew = w9 at HB hx1010_0 hx1010_1 hx1011_0 hx1011_1 hHeld ⊢
        refine zp 0 17 10 1 HT_ ?_
        refine zp 1 18 10 3 HT_ ?_
        refine zp 2 19 10 7 HT_ ?_
        refine zp 4 21 10 23 HT_ ?_
        refine zp 5 22 10 55 HT_ ?_
        refine zp 6 23 10 119 HT_ ?_
        refine take_ (i := 3) (N := some 20) (v := ?_) (a' := ?_) (zl 10 127) rfl rfl (take_ofW HT_.out HW_.out (by kernel_rfl)) (fun _ _ _ h => h) (Or.inl ⟨by rfl, ?_⟩) hHeld ?_ ?_
        rotate_left
        ·rintro w' ⟨s0, s1, s2, s3⟩
         go_simp
         with_reducible rfl
        rotate_left
        ·exact zs
        refine take_ (i := 7) (N := some 24) (v := ?_) (a' := ?_) (zl 10 255) rfl rfl (take_ofW HT_.out HW_.out (by kernel_rfl)) (fun _ _ _ h => h) (Or.inl ⟨by rfl, ?_⟩) hHeld ?_ ?_
        rotate_left
        ·rintro w' ⟨s0, s1, s2, s3⟩
         go_simp
         with_reducible rfl
        rotate_left
        ·exact zs
        refine one_ (i := 8) (N := some 25) (zl 10 511) rfl rfl (one_of HT_.out (by kernel_rfl)) (by decide) (fun K hK => ?_)
        refine goes_ Try.func160 (by kernel_rfl) rfl #[.agg #[.int .i64 ((rd_T26 l0 x5_1).f0), .int .i64 ((rd_T26 l0 x5_1).f1)], .agg #[.int .i64 ((rd_T26 l1 x5_1).f0), .int .i64 ((rd_T26 l1 x5_1).f1)]] (by rfl) rfl rfl zn ?_
        with_reducible refine (laws_eqPeg.calls ((rd_T26 l0 x5_1).f0) ((rd_T26 l0 x5_1).f1) ((rd_T26 l1 x5_1).f0) ((rd_T26 l1 x5_1).f1) true _ A7.out).mono ?_
        rintro e w10 ⟨rfl, hb⟩
        refine ⟨_, rfl, ?_⟩
        have n0_ := Aside0.mk (below_step zb hb)
        clear HB
        have HB := n0_
        clear n0_
        (try clear hb)
        (try clear hb2)
        (try clear hk)
        (try clear hi)
        refine hK.out _ _ ⟨(zc HB hw1010_0), (zc HB hw1010_1), (zc HB hw1011_0), (zc HB hw1011_1)⟩ (fun hHeld => ?_)
        clear hK K
        refine norm_ (a' := ?_) ?_ ?_
        rotate_left
        ·show Act.put _ (some 25) _ = _
         exact zs
        refine zp 9 26 10 1023 HT_ ?_
        refine done_ (done_of HT_.out (by kernel_rfl)) ?_
        try go_wp2
        go_roundg k1
        case measure => have := HK1.out; omega
        case rel => exact ⟨(wrap64 (x5_1 + 1)), (by first | rfl | (simp; done) | (simp [*]; done)), H', ⟨by have := HK1.out; omega⟩, ⟨zb⟩⟩
       ·replace c8 := Bool.eq_false_iff.mpr c8
        subst c8
        have H1 : (some false) = some r := by rw [if_neg (show ¬ (false = true) by decide)] at H; exact H
        clear H
        have H := H1
        clear H1
        obtain rfl := Option.some.inj H
        try go_wp2
        have n0_ := Aside0.mk (below_drew1 HB.out)
        clear HB
        have HB := n0_
        clear n0_
        have p1010 : 0 ≤ (x5_1 : Int) := of_decide_eq_true (by first | (with_reducible assumption) | assumption)
        have q1010 : x5_1 < (l0.length : Int) := of_decide_eq_true (by first | (with_reducible assumption) | assumption)
        obtain ⟨ad1010, e1010, hx1010_0, hx1010_1⟩ := at_T26 HR0.out x5_1 p1010 q1010
        have hw1010_1 := hx1010_1
        have hw1010_0 := hx1010_0
        cases e1010
        replace hx1010_0 := zc HB hx1010_0
        replace hx1010_1 := zc HB hx1010_1
        replace p1010 := eq_true p1010
        replace q1010 := eq_true q1010
        have p1011 : 0 ≤ (x5_1 : Int) := of_decide_eq_true (by first | (with_reducible assumption) | assumption)
        have q1011 : x5_1 < (l1.length : Int) := of_decide_eq_true (by first | (with_reducible assumption) | assumption)
        obtain ⟨ad1011, e1011, hx1011_0, hx1011_1⟩ := at_T26 HR1.out x5_1 p1011 q1011
        have hw1011_1 := hx1011_1
        have hw1011_0 := hx1011_0
        cases e1011
        replace hx1011_0 := zc HB hx1011_0
        replace hx1011_1 := zc HB hx1011_1
        replace p1011 := eq_true p1011
        replace q1011 := eq_true q1011
        refine start_ (n := 10) (S := fun w' => w'.cell? (ad1010.add ((x5_1).toNat * 2)) = some (.int .i64 ((rd_T26 l0 x5_1).f0)) ∧ w'.cell? ⟨(ad1010.add ((x5_1).toNat * 2)).block, (ad1010.add ((x5_1).toNat * 2)).off + 1, none⟩ = some (.int .i64 ((rd_T26 l0 x5_1).f1)) ∧ w'.cell? (ad1011.add ((x5_1).toNat * 2)) = some (.int .i64 ((rd_T26 l1 x5_1).f0)) ∧ w'.cell? ⟨(ad1011.add ((x5_1).toNat * 2)).block, (ad1011.add ((x5_1).toNat * 2)).off + 1, none⟩ = some (.int .i64 ((rd_T26 l1 x5_1).f1))) (ds := []) (zl 10 0) (by kernel_rfl) rfl rfl ⟨(zc HB hw1010_0), (zc HB hw1010_1), (zc HB hw1011_0), (zc HB hw1011_1)⟩ (fun hHeld => ?_); refine with_tabW laws_eqPegS.tab6 laws_eqPegS.bits6 (fun HT_ HW_ => ?_)
        generalize wr.drew = w11 at HB hx1010_0 hx1010_1 hx1011_0 hx1011_1 hHeld ⊢
        refine zp 0 17 10 1 HT_ ?_
        refine zp 1 18 10 3 HT_ ?_
        refine zp 2 19 10 7 HT_ ?_
        refine zp 4 21 10 23 HT_ ?_
        refine zp 5 22 10 55 HT_ ?_
        refine zp 6 23 10 119 HT_ ?_
        refine take_ (i := 3) (N := some 20) (v := ?_) (a' := ?_) (zl 10 127) rfl rfl (take_ofW HT_.out HW_.out (by kernel_rfl)) (fun _ _ _ h => h) (Or.inl ⟨by rfl, ?_⟩) hHeld ?_ ?_
        rotate_left
        ·rintro w' ⟨s0, s1, s2, s3⟩
         go_simp
         with_reducible rfl
        rotate_left
        ·exact zs
        refine take_ (i := 7) (N := some 24) (v := ?_) (a' := ?_) (zl 10 255) rfl rfl (take_ofW HT_.out HW_.out (by kernel_rfl)) (fun _ _ _ h => h) (Or.inl ⟨by rfl, ?_⟩) hHeld ?_ ?_
        rotate_left
        ·rintro w' ⟨s0, s1, s2, s3⟩
         go_simp
         with_reducible rfl
        rotate_left
        ·exact zs
        refine one_ (i := 8) (N := some 25) (zl 10 511) rfl rfl (one_of HT_.out (by kernel_rfl)) (by decide) (fun K hK => ?_)
        refine goes_ Try.func160 (by kernel_rfl) rfl #[.agg #[.int .i64 ((rd_T26 l0 x5_1).f0), .int .i64 ((rd_T26 l0 x5_1).f1)], .agg #[.int .i64 ((rd_T26 l1 x5_1).f0), .int .i64 ((rd_T26 l1 x5_1).f1)]] (by rfl) rfl rfl zn ?_
        with_reducible refine (laws_eqPeg.calls ((rd_T26 l0 x5_1).f0) ((rd_T26 l0 x5_1).f1) ((rd_T26 l1 x5_1).f0) ((rd_T26 l1 x5_1).f1) false _ A7.out).mono ?_
        rintro e w12 ⟨rfl, hb⟩
        refine ⟨_, rfl, ?_⟩
        have n0_ := Aside0.mk (below_step zb hb)
        clear HB
        have HB := n0_
        clear n0_
        (try clear hb)
        (try clear hb2)
        (try clear hk)
        (try clear hi)
        refine hK.out _ _ ⟨(zc HB hw1010_0), (zc HB hw1010_1), (zc HB hw1011_0), (zc HB hw1011_1)⟩ (fun hHeld => ?_)
        clear hK K
        refine norm_ (a' := ?_) ?_ ?_
        rotate_left
        ·show Act.put _ (some 25) _ = _
         exact zs
        refine zp 9 26 10 1023 HT_ ?_
        refine done_ (done_of HT_.out (by kernel_rfl)) ?_
        try go_wp2
        go_ret
        exact ⟨by first | rfl | (simp [errW_none, errW_some] <;> rfl) | (simp [*, errW_none, errW_some] <;> rfl), zb⟩
      ·rw [if_neg c6] at H
       exact absurd H (by simp)
     ·rw [if_neg c5] at H
      exact absurd H (by simp)
    ·rw [if_neg c4] at H
     have c4b0 : decide (x5_1 < (l0.length : Int)) = false := decide_eq_false c4
     clear c4
     obtain rfl := Option.some.inj H
     go_wp2
     go_ret
     exact ⟨by first | rfl | (simp [errW_none, errW_some] <;> rfl) | (simp [*, errW_none, errW_some] <;> rfl), zb⟩
 ·rw [if_neg c3] at H
  have c3b0 : ((l0.length : Int) == (l1.length : Int)) = false := beq_eq_false_iff_ne.mpr c3
  have c3b1 : ((l0.length : Int) != (l1.length : Int)) = true := bne_iff_ne.mpr c3
  have c3b2 : (l0.length == l1.length) = false := by first | simpa using c3 | (simp at c3 ⊢; omega)
  obtain rfl := Option.some.inj H
  go_enter Try.func39, Try.ntmps39
  go_wp2
  go_ret
  exact ⟨by first | rfl | (simp [errW_none, errW_some] <;> rfl) | (simp [*, errW_none, errW_some] <;> rfl), zb⟩
end Go.Proofs.Ytphpdfcblchpnaa.Q
namespace Go.Proofs.Ytphpdfcblchpnaa.Q
open Go.RowKit Go.Proofs.YtphpdfcblchpnaaW.PrintWords Go.Proofs.YtphpdfcblchpnaaW.PrintLast Go.Proofs.YtphpdfcblchpnaaW.PrintMore
attribute [local go_sem] max2_int min2_int max_two min_two max_three min_three max_four min_four   -- for this text's walks alone
set_option linter.unusedVariables false
set_option linter.unusedSimpArgs false
def spec_l1Least.f (a0 : Int) (a1 : Int) : Option (Int) := if a0 < a1 then (some a0) else (some a1)
set_option maxHeartbeats 8000000 in
set_option maxRecDepth 100000 in
theorem spec_l1Least.calls (a0 : Int) (a1 : Int) (r : Int) (w : World) (h : spec_l1Least.f a0 a1 = some r) :
  Calls Try.prog 204 #[.int .i64 a0, .int .i64 a1] w fun e w' => e = .returned (.int .i64 r) ∧ Drawn0 w w' := by
 have H : (if a0 < a1 then (some a0) else (some a1)) = some r := h
 clear h
 by_cases c3 : a0 < a1
 ·rw [if_pos c3] at H
  have c3b0 : decide (a0 < a1) = true := decide_eq_true c3
  clear c3
  obtain rfl := Option.some.inj H
  go_enter Try.func204, Try.ntmps204
  go_wp2
  go_ret
  exact ⟨by first | rfl | (simp; done) | (simp [*]; done), by repeat (first | exact Drawn0.refl _ | apply Drawn0.step)⟩
 ·rw [if_neg c3] at H
  have c3b0 : decide (a0 < a1) = false := decide_eq_false c3
  clear c3
  obtain rfl := Option.some.inj H
  go_enter Try.func204, Try.ntmps204
  go_wp2
  go_ret
  exact ⟨by first | rfl | (simp; done) | (simp [*]; done), by repeat (first | exact Drawn0.refl _ | apply Drawn0.step)⟩
end Go.Proofs.Ytphpdfcblchpnaa.Q
namespace Go.Proofs.Ytphpdfcblchpnaa.Q
open Go.RowKit Go.Proofs.YtphpdfcblchpnaaW.PrintWords Go.Proofs.YtphpdfcblchpnaaW.PrintLast Go.Proofs.YtphpdfcblchpnaaW.PrintMore
attribute [local go_sem] max2_int min2_int max_two min_two max_three min_three max_four min_four   -- for this text's walks alone
set_option linter.unusedVariables false
set_option linter.unusedSimpArgs false
def spec_wiRange.l0 : Nat → Int → Int → Int → Int → List (S26) → Int → Int → Option (Int × Int)
 | 0, _, _, _, _, _, _, _ => none
 | k + 1, x1, x2, x8, x9, x27, x28, x29 => if x29 < x28 then (if 0 ≤ x29 then (if x29 < (x27.length : Int) then ((spec_l1Least.f x8 (wrap64 ((wrap64 (x1 * ((rd_T26 x27 x29).f0))) + (wrap64 (x2 * ((rd_T26 x27 x29).f1)))))).bind fun t2144 => ((spec_l1Most.f x9 (wrap64 ((wrap64 (x1 * ((rd_T26 x27 x29).f0))) + (wrap64 (x2 * ((rd_T26 x27 x29).f1)))))).bind fun t2145 => (spec_wiRange.l0 k x1 x2 t2144 t2145 x27 x28 (wrap64 (x29 + 1))))) else (none)) else (none)) else (some (x8, x9))
def spec_wiRange.f (k : Nat) (l0 : List (S26)) (a1 : Int) (a2 : Int) : Option (Int × Int) := if 0 < (l0.length : Int) then (spec_wiRange.l0 k a1 a2 (wrap64 ((wrap64 (a1 * ((rd_T26 l0 0).f0))) + (wrap64 (a2 * ((rd_T26 l0 0).f1))))) (wrap64 ((wrap64 (a1 * ((rd_T26 l0 0).f0))) + (wrap64 (a2 * ((rd_T26 l0 0).f1))))) l0 (l0.length : Int) 0) else (none)
set_option maxHeartbeats 8000000 in
set_option maxRecDepth 100000 in
theorem spec_wiRange.calls (k : Nat) (A0 : Option Addr) (c0 : Nat) (l0 : List (S26)) (a1 : Int) (a2 : Int) (r1 : Int) (r2 : Int) (w : World) (hr0 : Kd.C k26 w A0 l0.length l0) (hc0 : l0.length ≤ c0) (h : spec_wiRange.f k l0 a1 a2 = some (r1, r2)) :
  Calls Try.prog 287 #[.slice A0 l0.length c0, .int .i64 a1, .int .i64 a2] w fun e w' => e = .returned (.tuple #[.int .i64 r1, .int .i64 r2]) ∧ Below w.heap.size w w' := by
 have hu26 := Try.underlying26
 have HR0 := Aside0.mk hr0
 have HC0 := Aside0.mk hc0
 clear hr0 hc0
 have HB := Aside0.mk (Below.refl w.heap.size w)
 have H : (if 0 < (l0.length : Int) then (spec_wiRange.l0 k a1 a2 (wrap64 ((wrap64 (a1 * ((rd_T26 l0 0).f0))) + (wrap64 (a2 * ((rd_T26 l0 0).f1))))) (wrap64 ((wrap64 (a1 * ((rd_T26 l0 0).f0))) + (wrap64 (a2 * ((rd_T26 l0 0).f1))))) l0 (l0.length : Int) 0) else (none)) = some (r1, r2) := h
 clear h
 by_cases c4 : 0 < (l0.length : Int)
 ·rw [if_pos c4] at H
  have c4b0 : decide (0 < (l0.length : Int)) = true := decide_eq_true c4
  have c4b1 : decide (0 < l0.length) = true := decide_eq_true (by omega)
  clear c4
  have H' := Aside0.mk H
  clear H
  have p2140 : 0 ≤ (0 : Int) := (by omega)
  have q2140 : 0 < (l0.length : Int) := of_decide_eq_true (by first | (with_reducible assumption) | assumption)
  obtain ⟨ad2140, e2140, hx2140_0, hx2140_1⟩ := at_T26 HR0.out 0 p2140 q2140
  cases e2140
  have qi2140 : (0 < l0.length) = True := eq_true (by omega)
  (try rw [show ((0 : Int)).toNat = 0 from rfl] at hx2140_0)
  (try rw [show 0 * 2 = 0 from rfl] at hx2140_0)
  (try rw [Addr.add_zero'] at hx2140_0)
  (try rw [show ((0 : Int)).toNat = 0 from rfl] at hx2140_1)
  (try rw [show 0 * 2 = 0 from rfl] at hx2140_1)
  (try rw [Addr.add_zero'] at hx2140_1)
  replace p2140 := eq_true p2140
  replace q2140 := eq_true q2140
  have p2141 : 0 ≤ (0 : Int) := (by omega)
  have q2141 : 0 < (l0.length : Int) := of_decide_eq_true (by first | (with_reducible assumption) | assumption)
  obtain ⟨ad2141, e2141, hx2141_0, hx2141_1⟩ := at_T26 HR0.out 0 p2141 q2141
  obtain rfl : ad2140 = ad2141 := (by injection e2141)
  have qi2141 : (0 < l0.length) = True := eq_true (by omega)
  (try rw [show ((0 : Int)).toNat = 0 from rfl] at hx2141_0)
  (try rw [show 0 * 2 = 0 from rfl] at hx2141_0)
  (try rw [Addr.add_zero'] at hx2141_0)
  (try rw [show ((0 : Int)).toNat = 0 from rfl] at hx2141_1)
  (try rw [show 0 * 2 = 0 from rfl] at hx2141_1)
  (try rw [Addr.add_zero'] at hx2141_1)
  replace p2141 := eq_true p2141
  replace q2141 := eq_true q2141
  go_enter Try.func287, Try.ntmps287
  go_wp2
  repeat (go_quiet (fail); try go_wp2)
  go_loopg [8, 9, 29] k (fun kq v8 v9 v29 w' => ∃ (x8_1 : Int) (x9_1 : Int) (x29_1 : Int), v8 = .int .i64 x8_1 ∧ v9 = .int .i64 x9_1 ∧ v29 = .int .i64 x29_1 ∧ Aside0 (spec_wiRange.l0 kq a1 a2 x8_1 x9_1 l0 (l0.length : Int) x29_1 = some (r1, r2)) ∧ Aside0 (kq ≤ k) ∧ Aside0 (Below w.heap.size w w'))
  case atStart => exact ⟨(wrap64 ((wrap64 (a1 * ((rd_T26 l0 0).f0))) + (wrap64 (a2 * ((rd_T26 l0 0).f1))))), (wrap64 ((wrap64 (a1 * ((rd_T26 l0 0).f0))) + (wrap64 (a2 * ((rd_T26 l0 0).f1))))), (0), (by first | rfl | (simp; done) | (simp [*]; done)), (by first | rfl | (simp; done) | (simp [*]; done)), (by first | rfl | (simp; done) | (simp [*]; done)), H', ⟨Nat.le_refl _⟩, ⟨zb⟩⟩
  case round =>
   clear H'
   try clear c2
   try clear p2
   try clear q2
   try clear hx2
   try clear qi2
   try clear c4
   try clear c4b0
   try clear c4b1
   try clear hx2140_0
   try clear hx2140_1
   try clear hx2141_0
   try clear hx2141_1
   try clear p2140
   try clear p2141
   try clear q2140
   try clear q2141
   obtain ⟨x8_1, x9_1, x29_1, rfl, rfl, rfl, HA, HK1, HB⟩ := hrel
   cases gk with
   | zero => exact absurd HA.out (by simp [spec_wiRange.l0])
   | succ k1 =>
    have H := HA.out
    clear HA
    simp only [spec_wiRange.l0] at H
    by_cases c5 : x29_1 < (l0.length : Int)
    ·rw [if_pos c5] at H
     have c5b0 : decide (x29_1 < (l0.length : Int)) = true := decide_eq_true c5
     clear c5
     by_cases c6 : 0 ≤ x29_1
     ·rw [if_pos c6] at H
      have c6b0 : decide (0 ≤ x29_1) = true := decide_eq_true c6
      clear c6
      by_cases c7 : x29_1 < (l0.length : Int)
      ·rw [if_pos c7] at H
       have c7b0 : decide (x29_1 < (l0.length : Int)) = true := decide_eq_true c7
       clear c7
       replace H := Option.bind_eq_some_iff.mp H
       obtain ⟨t2144, A80, H⟩ := H
       replace H : ((spec_l1Most.f x9_1 (wrap64 ((wrap64 (a1 * ((rd_T26 l0 x29_1).f0))) + (wrap64 (a2 * ((rd_T26 l0 x29_1).f1)))))).bind fun t2145 => (spec_wiRange.l0 k1 a1 a2 t2144 t2145 l0 (l0.length : Int) (wrap64 (x29_1 + 1)))) = some (r1, r2) := H
       have A8 := Aside0.mk A80
       clear A80
       replace H := Option.bind_eq_some_iff.mp H
       obtain ⟨t2145, A90, H⟩ := H
       replace H : (spec_wiRange.l0 k1 a1 a2 t2144 t2145 l0 (l0.length : Int) (wrap64 (x29_1 + 1))) = some (r1, r2) := H
       have A9 := Aside0.mk A90
       clear A90
       have H' := Aside0.mk H
       clear H
       have p2142 : 0 ≤ (x29_1 : Int) := of_decide_eq_true (by first | (with_reducible assumption) | assumption)
       have q2142 : x29_1 < (l0.length : Int) := of_decide_eq_true (by first | (with_reducible assumption) | assumption)
       obtain ⟨ad2142, e2142, hx2142_0, hx2142_1⟩ := at_T26 HR0.out x29_1 p2142 q2142
       obtain rfl : ad2140 = ad2142 := (by injection e2142)
       replace hx2142_0 := zc HB hx2142_0
       replace hx2142_1 := zc HB hx2142_1
       replace p2142 := eq_true p2142
       replace q2142 := eq_true q2142
       go_wp2_with (first | ((with_reducible refine gate_dst (N := 11) rfl ?_); refine box_event ?hg (N := 11) ?hd (cs := #[.int .i64 0, .int .i64 0]) (t := 26) ?hr ?_; (case hd => rfl); (case hg => rfl); (case hr => first | (go_simp; done) | (go_simp; rfl)); intro gb2143 hg w10 hbox hb; have n0_ := Aside0.mk (below_step zb hb); have n1_ := Aside0.mk (hbox); have n2_ := Aside0.mk ((by rw [hg]; exact (below_size zb) : w.heap.size ≤ gb2143)); have n3_ := Aside0.mk ((by rw [hg]; exact (below_size zb) : w.heap.size ≤ gb2143)); clear HB; have HB := n0_; have BK2143 := n1_; have GW2143 := n2_; have GE2143 := n3_; clear n0_ n1_ n2_ n3_; clear hb hbox hg; have hcz11_0 : w10.cell? ⟨gb2143, 0, none⟩ = some (.int .i64 0) := (blk_cell BK2143.out 0).trans rfl; have hcz11_1 : w10.cell? ⟨gb2143, 1, none⟩ = some (.int .i64 0) := (blk_cell BK2143.out 1).trans rfl; have hfz11_0 := blk_frozen BK2143.out 0; have hfz11_1 := blk_frozen BK2143.out 1) | (go_at_call 204; (with_reducible refine (spec_l1Least.calls x8_1 (wrap64 ((wrap64 (a1 * ((rd_T26 l0 x29_1).f0))) + (wrap64 (a2 * ((rd_T26 l0 x29_1).f1))))) t2144 _ A8.out).mono ?_); rintro e w' ⟨rfl, ⟨nd, rfl⟩⟩; (try first | exact ⟨rfl, _, World.drewN_drewN _ _ _⟩ | exact ⟨rfl, _, Eq.trans (World.drewN_drewN _ _ _) (congrArg (World.drewN _) (Nat.add_assoc _ _ _))⟩)) | (go_at_call 200; (with_reducible refine (spec_l1Most.calls x9_1 (wrap64 ((wrap64 (a1 * ((rd_T26 l0 x29_1).f0))) + (wrap64 (a2 * ((rd_T26 l0 x29_1).f1))))) t2145 _ A9.out).mono ?_); rintro e w' ⟨rfl, ⟨nd, rfl⟩⟩; (try first | exact ⟨rfl, _, World.drewN_drewN _ _ _⟩ | exact ⟨rfl, _, Eq.trans (World.drewN_drewN _ _ _) (congrArg (World.drewN _) (Nat.add_assoc _ _ _))⟩)))
       repeat (go_quiet (first | ((with_reducible refine gate_dst (N := 11) rfl ?_); refine box_event ?hg (N := 11) ?hd (cs := #[.int .i64 0, .int .i64 0]) (t := 26) ?hr ?_; (case hd => rfl); (case hg => rfl); (case hr => first | (go_simp; done) | (go_simp; rfl)); intro gb2143 hg w10 hbox hb; have n0_ := Aside0.mk (below_step zb hb); have n1_ := Aside0.mk (hbox); have n2_ := Aside0.mk ((by rw [hg]; exact (below_size zb) : w.heap.size ≤ gb2143)); have n3_ := Aside0.mk ((by rw [hg]; exact (below_size zb) : w.heap.size ≤ gb2143)); clear HB; have HB := n0_; have BK2143 := n1_; have GW2143 := n2_; have GE2143 := n3_; clear n0_ n1_ n2_ n3_; clear hb hbox hg; have hcz11_0 : w10.cell? ⟨gb2143, 0, none⟩ = some (.int .i64 0) := (blk_cell BK2143.out 0).trans rfl; have hcz11_1 : w10.cell? ⟨gb2143, 1, none⟩ = some (.int .i64 0) := (blk_cell BK2143.out 1).trans rfl; have hfz11_0 := blk_frozen BK2143.out 0; have hfz11_1 := blk_frozen BK2143.out 1) | (go_at_call 204; (with_reducible refine (spec_l1Least.calls x8_1 (wrap64 ((wrap64 (a1 * ((rd_T26 l0 x29_1).f0))) + (wrap64 (a2 * ((rd_T26 l0 x29_1).f1))))) t2144 _ A8.out).mono ?_); rintro e w' ⟨rfl, ⟨nd, rfl⟩⟩; (try first | exact ⟨rfl, _, World.drewN_drewN _ _ _⟩ | exact ⟨rfl, _, Eq.trans (World.drewN_drewN _ _ _) (congrArg (World.drewN _) (Nat.add_assoc _ _ _))⟩)) | (go_at_call 200; (with_reducible refine (spec_l1Most.calls x9_1 (wrap64 ((wrap64 (a1 * ((rd_T26 l0 x29_1).f0))) + (wrap64 (a2 * ((rd_T26 l0 x29_1).f1))))) t2145 _ A9.out).mono ?_); rintro e w' ⟨rfl, ⟨nd, rfl⟩⟩; (try first | exact ⟨rfl, _, World.drewN_drewN _ _ _⟩ | exact ⟨rfl, _, Eq.trans (World.drewN_drewN _ _ _) (congrArg (World.drewN _) (Nat.add_assoc _ _ _))⟩))); try go_wp2_with (first | ((with_reducible refine gate_dst (N := 11) rfl ?_); refine box_event ?hg (N := 11) ?hd (cs := #[.int .i64 0, .int .i64 0]) (t := 26) ?hr ?_; (case hd => rfl); (case hg => rfl); (case hr => first | (go_simp; done) | (go_simp; rfl)); intro gb2143 hg w10 hbox hb; have n0_ := Aside0.mk (below_step zb hb); have n1_ := Aside0.mk (hbox); have n2_ := Aside0.mk ((by rw [hg]; exact (below_size zb) : w.heap.size ≤ gb2143)); have n3_ := Aside0.mk ((by rw [hg]; exact (below_size zb) : w.heap.size ≤ gb2143)); clear HB; have HB := n0_; have BK2143 := n1_; have GW2143 := n2_; have GE2143 := n3_; clear n0_ n1_ n2_ n3_; clear hb hbox hg; have hcz11_0 : w10.cell? ⟨gb2143, 0, none⟩ = some (.int .i64 0) := (blk_cell BK2143.out 0).trans rfl; have hcz11_1 : w10.cell? ⟨gb2143, 1, none⟩ = some (.int .i64 0) := (blk_cell BK2143.out 1).trans rfl; have hfz11_0 := blk_frozen BK2143.out 0; have hfz11_1 := blk_frozen BK2143.out 1) | (go_at_call 204; (with_reducible refine (spec_l1Least.calls x8_1 (wrap64 ((wrap64 (a1 * ((rd_T26 l0 x29_1).f0))) + (wrap64 (a2 * ((rd_T26 l0 x29_1).f1))))) t2144 _ A8.out).mono ?_); rintro e w' ⟨rfl, ⟨nd, rfl⟩⟩; (try first | exact ⟨rfl, _, World.drewN_drewN _ _ _⟩ | exact ⟨rfl, _, Eq.trans (World.drewN_drewN _ _ _) (congrArg (World.drewN _) (Nat.add_assoc _ _ _))⟩)) | (go_at_call 200; (with_reducible refine (spec_l1Most.calls x9_1 (wrap64 ((wrap64 (a1 * ((rd_T26 l0 x29_1).f0))) + (wrap64 (a2 * ((rd_T26 l0 x29_1).f1))))) t2145 _ A9.out).mono ?_); rintro e w' ⟨rfl, ⟨nd, rfl⟩⟩; (try first | exact ⟨rfl, _, World.drewN_drewN _ _ _⟩ | exact ⟨rfl, _, Eq.trans (World.drewN_drewN _ _ _) (congrArg (World.drewN _) (Nat.add_assoc _ _ _))⟩))))
       go_roundg k1
       case measure => have := HK1.out; omega
       case rel => exact ⟨(t2144), (t2145), (wrap64 (x29_1 + 1)), (by first | rfl | (simp; done) | (simp [*]; done)), (by first | rfl | (simp; done) | (simp [*]; done)), (by first | rfl | (simp; done) | (simp [*]; done)), H', ⟨by have := HK1.out; omega⟩, ⟨zb⟩⟩
      ·rw [if_neg c7] at H
       exact absurd H (by simp)
     ·rw [if_neg c6] at H
      exact absurd H (by simp)
    ·rw [if_neg c5] at H
     have c5b0 : decide (x29_1 < (l0.length : Int)) = false := decide_eq_false c5
     clear c5
     simp only [Option.some.injEq, Prod.mk.injEq] at H
     obtain ⟨rfl, rfl⟩ := H
     go_wp2
     repeat (go_quiet (fail); try go_wp2)
     go_ret2
     exact ⟨by first | rfl | (simp [errW_none, errW_some] <;> rfl) | (simp [*, errW_none, errW_some] <;> rfl), zb⟩
 ·rw [if_neg c4] at H
  exact absurd H (by simp)
def spec_wiWidth.f (k : Nat) (l0 : List (S26)) (a1 : Int) (a2 : Int) : Option (Int) := (spec_wiRange.f k l0 a1 a2).bind fun bt2146 => (some (wrap64 (bt2146.2 - bt2146.1)))
set_option maxHeartbeats 8000000 in
set_option maxRecDepth 100000 in
theorem spec_wiWidth.calls (k : Nat) (A0 : Option Addr) (c0 : Nat) (l0 : List (S26)) (a1 : Int) (a2 : Int) (r : Int) (w : World) (hr0 : Kd.C k26 w A0 l0.length l0) (hc0 : l0.length ≤ c0) (h : spec_wiWidth.f k l0 a1 a2 = some r) :
  Calls Try.prog 259 #[.slice A0 l0.length c0, .int .i64 a1, .int .i64 a2] w fun e w' => e = .returned (.int .i64 r) ∧ Below w.heap.size w w' := by
 have HR0 := Aside0.mk hr0
 have HC0 := Aside0.mk hc0
 clear hr0 hc0
 have HB := Aside0.mk (Below.refl w.heap.size w)
 have H : ((spec_wiRange.f k l0 a1 a2).bind fun bt2146 => (some (wrap64 (bt2146.2 - bt2146.1)))) = some r := h
 clear h
 replace H := Option.bind_eq_some_iff.mp H
 obtain ⟨⟨t2146, t2147⟩, A40, H⟩ := H
 replace H : (some (wrap64 (t2147 - t2146))) = some r := H
 have A4 := Aside0.mk A40
 clear A40
 obtain rfl := Option.some.inj H
 go_enter Try.func259, Try.ntmps259
 go_wp2_with (first | ((with_reducible refine gate_callee (f := 287) rfl ?_); refine goesL_ (some 13) rfl rfl Try.func287 (by kernel_rfl) rfl #[.slice A0 l0.length c0, .int .i64 a1, .int .i64 a2] rfl zn ?_; (with_reducible refine (spec_wiRange.calls k _ _ l0 a1 a2 t2146 t2147 _ ?side1 ?side2 A4.out).mono ?_); (case side1 => repeat (first | exact HR0.out | (with_reducible refine Kd.C_alloc ?_ _) | (with_reducible refine Kd.C_drewN ?_ _) | (with_reducible refine Kd.C_drew ?_))); (case side2 => exact HC0.out); rintro e w5 ⟨rfl, hb⟩; refine ⟨_, rfl, ?_⟩; have n0_ := Aside0.mk (below_step zb hb); clear HB; have HB := n0_; clear n0_; (try clear hb); (try clear hb2); (try clear hk); (try clear hi)))
 go_ret
 exact ⟨by first | rfl | (simp [errW_none, errW_some] <;> rfl) | (simp [*, errW_none, errW_some] <;> rfl), zb⟩
end Go.Proofs.Ytphpdfcblchpnaa.Q
