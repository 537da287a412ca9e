/- Parts of the proof: printed texts, words and own texts, cut to what is used. -/
import Derived.Test.YtphpdfcblchpnaaDoorZ1
namespace Go.Proofs.YtphpdfcblchpnaaDoor.Q
open Go.RowKit Go.Proofs.YtphpdfcblchpnaaDoorW.PrintWords Go.Proofs.YtphpdfcblchpnaaDoorW.PrintLast Go.Proofs.YtphpdfcblchpnaaDoorW.PrintMore
attribute [local go_sem] max2_int min2_int max_two min_two max_three min_three max_four min_four   -- for this text's walks alone
set_option linter.unusedVariables false
set_option linter.unusedSimpArgs false
attribute [local go_sem high] eqA33
def spec_PolygonText.f (k : Nat) (l0 : List (S33)) : Option (ByteArray × Bool) := (spec_pgGood.f k l0).bind fun t161 => (if t161 = true then ((spec_pgText.f k l0).bind fun t162 => (some (t162, true))) else (some ((⟨#[]⟩ : ByteArray), false)))
set_option maxHeartbeats 8000000 in
set_option maxRecDepth 100000 in
theorem spec_PolygonText.calls (k : Nat) (A0 : Option Addr) (c0 : Nat) (l0 : List (S33)) (r1 : ByteArray) (r2 : Bool) (w : World) (hr0 : Kd.C k33 w A0 l0.length l0) (hc0 : l0.length ≤ c0) (h : spec_PolygonText.f k l0 = some (r1, r2)) :
  Calls Tryd.prog 5 #[.slice A0 l0.length c0] w fun e w' => e = .returned (.tuple #[.string r1, .bool r2]) ∧ Below w.heap.size w w' := by
 have HR0 := Aside0.mk hr0
 have HC0 := Aside0.mk hc0
 clear hr0 hc0
 have HB := Aside0.mk (Below.refl w.heap.size w)
 have H : ((spec_pgGood.f k l0).bind fun t161 => (if t161 = true then ((spec_pgText.f k l0).bind fun t162 => (some (t162, true))) else (some ((⟨#[]⟩ : ByteArray), false)))) = some (r1, r2) := h
 clear h
 replace H := Option.bind_eq_some_iff.mp H
 obtain ⟨t161, A20, H⟩ := H
 replace H : (if t161 = true then ((spec_pgText.f k l0).bind fun t162 => (some (t162, true))) else (some ((⟨#[]⟩ : ByteArray), false))) = some (r1, r2) := H
 have A2 := Aside0.mk A20
 clear A20
 by_cases c3 : t161 = true
 ·subst c3
  have H1 : ((spec_pgText.f k l0).bind fun t162 => (some (t162, true))) = some (r1, r2) := by rw [if_pos rfl] at H; exact H
  clear H
  have H := H1
  clear H1
  replace H := Option.bind_eq_some_iff.mp H
  obtain ⟨t162, A40, H⟩ := H
  replace H : (some (t162, true)) = some (r1, r2) := H
  have A4 := Aside0.mk A40
  clear A40
  simp only [Option.some.injEq, Prod.mk.injEq] at H
  obtain ⟨rfl, rfl⟩ := H
  go_enter Tryd.func5, Tryd.ntmps5
  go_wp2_with (first | ((with_reducible refine gate_callee (f := 9) rfl ?_); refine goesL_ (some 5) rfl rfl Tryd.func9 (by kernel_rfl) rfl #[.slice A0 l0.length c0] rfl zn ?_; (with_reducible refine (spec_pgGood.calls k _ _ l0 true _ ?side1 ?side2 A2.out).mono ?_); (case side1 => repeat (first | exact HR0.out | (with_reducible refine Kd.C_alloc ?_ _) | (with_reducible refine Kd.C_drewN ?_ _) | (with_reducible refine Kd.C_drew ?_))); (case side2 => exact HC0.out); rintro e w5 ⟨rfl, hb⟩; refine ⟨_, rfl, ?_⟩; have n0_ := Aside0.mk (below_step zb hb); clear HB; have HB := n0_; clear n0_; (try clear hb); (try clear hb2); (try clear hk); (try clear hi)) | ((with_reducible refine gate_callee (f := 10) rfl ?_); refine goesL_ (some 8) rfl rfl Tryd.func10 (by kernel_rfl) rfl #[.slice A0 l0.length c0] rfl zn ?_; (with_reducible refine (spec_pgText.calls k _ _ l0 t162 _ ?side1 ?side2 A4.out).mono ?_); (case side1 => repeat (first | exact (Kd.C_below HR0.out HB.out) | (with_reducible refine Kd.C_alloc ?_ _) | (with_reducible refine Kd.C_drewN ?_ _) | (with_reducible refine Kd.C_drew ?_))); (case side2 => exact HC0.out); rintro e w6 ⟨rfl, hb⟩; refine ⟨_, rfl, ?_⟩; have n0_ := Aside0.mk (below_step zb hb); clear HB; have HB := n0_; clear n0_; (try clear hb); (try clear hb2); (try clear hk); (try clear hi)))
  go_ret2
  exact ⟨by first | rfl | (simp [errW_none, errW_some] <;> rfl) | (simp [*, errW_none, errW_some] <;> rfl), zb⟩
 ·replace c3 := Bool.eq_false_iff.mpr c3
  subst c3
  have H1 : (some ((⟨#[]⟩ : ByteArray), false)) = some (r1, r2) := by rw [if_neg (show ¬ (false = true) by decide)] at H; exact H
  clear H
  have H := H1
  clear H1
  simp only [Option.some.injEq, Prod.mk.injEq] at H
  obtain ⟨rfl, rfl⟩ := H
  go_enter Tryd.func5, Tryd.ntmps5
  go_wp2_with (first | ((with_reducible refine gate_callee (f := 9) rfl ?_); refine goesL_ (some 5) rfl rfl Tryd.func9 (by kernel_rfl) rfl #[.slice A0 l0.length c0] rfl zn ?_; (with_reducible refine (spec_pgGood.calls k _ _ l0 false _ ?side1 ?side2 A2.out).mono ?_); (case side1 => repeat (first | exact HR0.out | (with_reducible refine Kd.C_alloc ?_ _) | (with_reducible refine Kd.C_drewN ?_ _) | (with_reducible refine Kd.C_drew ?_))); (case side2 => exact HC0.out); rintro e w7 ⟨rfl, hb⟩; refine ⟨_, rfl, ?_⟩; have n0_ := Aside0.mk (below_step zb hb); clear HB; have HB := n0_; clear n0_; (try clear hb); (try clear hb2); (try clear hk); (try clear hi)))
  go_ret2
  exact ⟨by first | rfl | (simp [errW_none, errW_some] <;> rfl) | (simp [*, errW_none, errW_some] <;> rfl), zb⟩
def laws_toPeg.f (a0_0 : Int) (a0_1 : Int) : Option (Int × Int) := some (a0_0, a0_1)
set_option maxHeartbeats 8000000 in
set_option maxRecDepth 100000 in
theorem laws_toPeg.calls (a0_0 : Int) (a0_1 : Int) (r1 : Int) (r2 : Int) (w : World) (h : laws_toPeg.f a0_0 a0_1 = some (r1, r2)) :
  Calls Tryd.prog 11 #[.agg #[.int .i64 a0_0, .int .i64 a0_1]] w fun e w' => e = .returned (.agg #[.int .i64 r1, .int .i64 r2]) ∧ Below w.heap.size w w' := by
 have hu35 := Tryd.underlying35
 have hu33 := Tryd.underlying33
 have HB := Aside0.mk (Below.refl w.heap.size w)
 have H : (some (a0_0, a0_1)) = some (r1, r2) := h
 clear h
 simp only [Option.some.injEq, Prod.mk.injEq] at H
 obtain ⟨rfl, rfl⟩ := H
 go_enter Tryd.func11, Tryd.ntmps11
 go_wp2_with (first | ((with_reducible refine gate_dst (N := 1) rfl ?_); refine box_event ?hg (N := 1) ?hd (cs := #[.int .i64 a0_0, .int .i64 a0_1]) (t := 35) ?hr ?_; (case hd => rfl); (case hg => rfl); (case hr => first | (go_simp; done) | (go_simp; rfl)); intro gb163 hg w2 hbox hb; have n0_ := Aside0.mk (below_step zb hb); have n1_ := Aside0.mk (hbox); have n2_ := Aside0.mk ((by rw [hg]; exact (below_size zb) : w.heap.size ≤ gb163)); have n3_ := Aside0.mk ((by rw [hg]; exact (below_size zb) : w.heap.size ≤ gb163)); clear HB; have HB := n0_; have BK163 := n1_; have GW163 := n2_; have GE163 := n3_; clear n0_ n1_ n2_ n3_; clear hb hbox hg) | ((with_reducible refine gate_dst (N := 2) rfl ?_); refine box_event ?hg (N := 2) ?hd (cs := #[.int .i64 0, .int .i64 0]) (t := 33) ?hr ?_; (case hd => rfl); (case hg => rfl); (case hr => first | (go_simp; done) | (go_simp; rfl)); intro gb164 hg w3 hbox hb; have n0_ := Aside0.mk (blk_below (g := gb163) (o := .cells #[.int .i64 a0_0, .int .i64 a0_1] 35 (0, 0)) zk hb); have n1_ := Aside0.mk (below_step zb hb); have n2_ := Aside0.mk (hbox); have n3_ := Aside0.mk ((by rw [hg]; exact (below_size zb) : w.heap.size ≤ gb164)); have n4_ := Aside0.mk ((by rw [hg]; exact (below_size zb) : w.heap.size ≤ gb164)); have n5_ := Aside0.mk ((by rw [hg]; exact Nat.ne_of_lt (blk_lt (g := gb163) (o := .cells #[.int .i64 a0_0, .int .i64 a0_1] 35 (0, 0)) zk) : gb163 ≠ gb164)); have n6_ := Aside0.mk ((by rw [hg]; exact Nat.ne_of_gt (blk_lt (g := gb163) (o := .cells #[.int .i64 a0_0, .int .i64 a0_1] 35 (0, 0)) zk) : gb164 ≠ gb163)); clear BK163; clear HB; have BK163 := n0_; have HB := n1_; have BK164 := n2_; have GW164 := n3_; have GE164 := n4_; have NB163_164 := n5_; have NB164_163 := n6_; clear n0_ n1_ n2_ n3_ n4_ n5_ n6_; clear hb hbox hg) | ((with_reducible refine gate_dst (N := 3) rfl ?_); refine box_event ?hg (N := 3) ?hd (cs := #[.int .i64 0, .int .i64 0]) (t := 33) ?hr ?_; (case hd => rfl); (case hg => rfl); (case hr => first | (go_simp; done) | (go_simp; rfl)); intro gb165 hg w4 hbox hb; have n0_ := Aside0.mk (blk_below (g := gb163) (o := .cells #[.int .i64 a0_0, .int .i64 a0_1] 35 (0, 0)) zk hb); have n1_ := Aside0.mk (blk_below (g := gb164) (o := .cells #[.int .i64 0, .int .i64 0] 33 (0, 0)) zk hb); have n2_ := Aside0.mk (below_step zb hb); have n3_ := Aside0.mk (hbox); have n4_ := Aside0.mk ((by rw [hg]; exact (below_size zb) : w.heap.size ≤ gb165)); have n5_ := Aside0.mk ((by rw [hg]; exact (below_size zb) : w.heap.size ≤ gb165)); have n6_ := Aside0.mk ((by rw [hg]; exact Nat.ne_of_lt (blk_lt (g := gb163) (o := .cells #[.int .i64 a0_0, .int .i64 a0_1] 35 (0, 0)) zk) : gb163 ≠ gb165)); have n7_ := Aside0.mk ((by rw [hg]; exact Nat.ne_of_gt (blk_lt (g := gb163) (o := .cells #[.int .i64 a0_0, .int .i64 a0_1] 35 (0, 0)) zk) : gb165 ≠ gb163)); have n8_ := Aside0.mk ((by rw [hg]; exact Nat.ne_of_lt (blk_lt (g := gb164) (o := .cells #[.int .i64 0, .int .i64 0] 33 (0, 0)) zk) : gb164 ≠ gb165)); have n9_ := Aside0.mk ((by rw [hg]; exact Nat.ne_of_gt (blk_lt (g := gb164) (o := .cells #[.int .i64 0, .int .i64 0] 33 (0, 0)) zk) : gb165 ≠ gb164)); clear BK163; clear BK164; clear HB; have BK163 := n0_; have BK164 := n1_; have HB := n2_; have BK165 := n3_; have GW165 := n4_; have GE165 := n5_; have NB163_165 := n6_; have NB165_163 := n7_; have NB164_165 := n8_; have NB165_164 := n9_; clear n0_ n1_ n2_ n3_ n4_ n5_ n6_ n7_ n8_ n9_; clear hb hbox hg; have hnb5 := NB163_164.out; have hnc5 := NB164_163.out; have hnb6 := NB163_165.out; have hnc6 := NB165_163.out; have hcz7_0 : w4.cell? ⟨gb163, 0, none⟩ = some (.int .i64 a0_0) := (blk_cell BK163.out 0).trans rfl; have hcz7_1 : w4.cell? ⟨gb163, 1, none⟩ = some (.int .i64 a0_1) := (blk_cell BK163.out 1).trans rfl; have hfz7_0 := blk_frozen BK163.out 0; have hfz7_1 := blk_frozen BK163.out 1; have hnb8 := NB165_164.out; have hnc8 := NB164_165.out; have hcz9_0 : w4.cell? ⟨gb165, 0, none⟩ = some (.int .i64 0) := (blk_cell BK165.out 0).trans rfl; have hcz9_1 : w4.cell? ⟨gb165, 1, none⟩ = some (.int .i64 0) := (blk_cell BK165.out 1).trans rfl; have hfz9_0 := blk_frozen BK165.out 0; have hfz9_1 := blk_frozen BK165.out 1; have hcz10_0 : w4.cell? ⟨gb164, 0, none⟩ = some (.int .i64 0) := (blk_cell BK164.out 0).trans rfl; have hcz10_1 : w4.cell? ⟨gb164, 1, none⟩ = some (.int .i64 0) := (blk_cell BK164.out 1).trans rfl; have hfz10_0 := blk_frozen BK164.out 0; have hfz10_1 := blk_frozen BK164.out 1))
 refine bodyPost_ret (results_cell_row rfl _ _ gb164 33 #[.int .i64 a0_0, .int .i64 a0_1] (0, 0) _ rfl (by (with_reducible repeat (first | refine blk_drewN ?_ _ | refine blk_drew ?_ | refine blk_alloc ?_ _)); refine blk_put (cs := #[.int .i64 a0_0, .int .i64 0]) ?_ 1 _ rfl; (with_reducible repeat (first | refine blk_drewN ?_ _ | refine blk_drew ?_ | refine blk_alloc ?_ _)); refine blk_put (cs := #[.int .i64 0, .int .i64 0]) ?_ 0 _ rfl; (with_reducible repeat (first | refine blk_drewN ?_ _ | refine blk_drew ?_ | refine blk_alloc ?_ _)); refine blk_far ?_ NB164_165.out _; (with_reducible repeat (first | refine blk_drewN ?_ _ | refine blk_drew ?_ | refine blk_alloc ?_ _)); refine blk_far ?_ NB164_165.out _; (with_reducible repeat (first | refine blk_drewN ?_ _ | refine blk_drew ?_ | refine blk_alloc ?_ _)); exact BK164.out) Tryd.underlying33 rfl (by kernel_rfl)) rfl ?_
 exact ⟨by first | rfl | (simp [errW_none, errW_some] <;> rfl) | (simp [*, errW_none, errW_some] <;> rfl), zb⟩
def laws_toPegS.l0 : Nat → List (S35) → List (S33) → Int → Option ((List (S33)))
 | 0, _, _, _ => none
 | k + 1, x0, x3, x4 => if x4 < (x0.length : Int) then (if 0 ≤ x4 then ((laws_toPeg.f ((rd_T35 x0 x4).f0) ((rd_T35 x0 x4).f1)).bind fun bt170 => (if x4 < (x3.length : Int) then (laws_toPegS.l0 k x0 (x3.set (x4 : Int).toNat (⟨bt170.1, bt170.2⟩ : S33)) (wrap64 (x4 + 1))) else (none))) else (none)) else (some x3)
def laws_toPegS.f (k : Nat) (l0 : List (S35)) : Option ((List (S33))) := if 0 ≤ (l0.length : Int) then (if ((l0.length : Int) : Int).toNat ≤ 17592186044416 then (laws_toPegS.l0 k l0 (List.replicate ((l0.length : Int) : Int).toNat z33) 0) else (none)) else (none)
set_option maxHeartbeats 8000000 in
set_option maxRecDepth 100000 in
theorem laws_toPegS.calls (k : Nat) (A0 : Option Addr) (c0 : Nat) (l0 : List (S35)) (r : List (S33)) (w : World) (hr0 : Kd.C k35 w A0 l0.length l0) (hc0 : l0.length ≤ c0) (h : laws_toPegS.f k l0 = some r) :
  Calls Tryd.prog 6 #[.slice A0 l0.length c0] w fun e w' => ∃ v0_ : Value, e = .returned (v0_) ∧ Kd.R k33 33 w' w.heap.size (fun _ => True) v0_ r ∧ Below w.heap.size w w' := by
 have hu35 := Tryd.underlying35
 have hu33 := Tryd.underlying33
 have HR0 := Aside0.mk hr0
 have HC0 := Aside0.mk hc0
 clear hr0 hc0
 have HB := Aside0.mk (Below.refl w.heap.size w)
 have H : (if 0 ≤ (l0.length : Int) then (if ((l0.length : Int) : Int).toNat ≤ 17592186044416 then (laws_toPegS.l0 k l0 (List.replicate ((l0.length : Int) : Int).toNat z33) 0) else (none)) else (none)) = some r := h
 clear h
 by_cases c2 : 0 ≤ (l0.length : Int)
 ·rw [if_pos c2] at H
  have c2b0 := eq_true c2
  have c2b1 : decide (0 ≤ (l0.length : Int)) = true := decide_eq_true c2
  clear c2
  by_cases c3 : ((l0.length : Int) : Int).toNat ≤ 17592186044416
  ·rw [if_pos c3] at H
   have c3b0 := eq_true c3
   have c3b1 : decide (((l0.length : Int) : Int).toNat ≤ 17592186044416) = true := decide_eq_true c3
   clear c3
   obtain ⟨y166, hy166⟩ : ∃ y_ : List (S33), y_ = (List.replicate ((l0.length : Int) : Int).toNat z33) := ⟨_, rfl⟩
   replace H : (laws_toPegS.l0 k l0 y166 0) = some r := by first | (rw [hy166]; with_reducible exact H) | (have H2_ := (Option.bind_some _ _).symm.trans H; rw [hy166]; with_reducible exact H2_) | (have H2_ := (Option.bind_some _ _).symm.trans H; with_reducible exact H2_) | with_reducible exact H | (rw [hy166]; exact H) | exact H
   have Ny166 := Aside0.mk hy166
   clear hy166
   have H' := Aside0.mk H
   clear H
   go_enter Tryd.func6, Tryd.ntmps6
   go_wp2_with (first | ((with_reducible refine gate_dst (N := 7) rfl ?_); refine Kd.R_make k33 _ 33 rfl (N := 7) rfl 26 _ _ rfl (l0.length : Int) rfl rfl Tryd.underlying26 (.agg #[(.int .i64 0), (.int .i64 0)]) 16 info33 rfl (by decide) (by omega) z33 (ok := fun _ => True) (okp := fun _ => True) (k33_mkM _ _ _ z33 ) (fun _ hk => hk) trivial (of_decide_eq_true (by first | (with_reducible assumption) | assumption)) (Nat.le_trans (Nat.mul_le_mul_right _ (of_decide_eq_true (by first | (with_reducible assumption) | assumption) : (l0.length : Int).toNat ≤ 17592186044416)) (by omega)) (Below.refl _ _) (Nat.le_refl _) ?_; intro v167 w4 ho5 hb hg_ hnew_; clear hg_ hnew_; (first | rw [← Ny166.out] at ho5 | (simp only [Int.reduceToNat] at ho5; rw [← Ny166.out] at ho5)); have n0_ := Aside0.mk (Kd.R_lower ho5 (below_size zb)); have n1_ := Aside0.mk (below_step zb hb); clear HB; have HO168 := n0_; have HB := n1_; clear n0_ n1_; clear hb ho5))
   go_loopg [4] k (fun kq v4 w' => ∃ (x3_1 : List (S33)) (x4_1 : Int), v4 = .int .i64 x4_1 ∧ Aside0 (laws_toPegS.l0 kq l0 x3_1 x4_1 = some r) ∧ Aside0 (kq ≤ k) ∧ Aside0 (Kd.R k33 33 w' w.heap.size (fun _ => True) v167 x3_1) ∧ Aside0 (Below w.heap.size w w'))
   case atStart => exact ⟨(y166), (0), (by first | rfl | (simp; done) | (simp [*]; done)), H', ⟨Nat.le_refl _⟩, ⟨by (with_reducible repeat (first | apply Kd.R_alloc | apply Kd.R_drewN | apply Kd.R_drew)); exact HO168.out⟩, ⟨zb⟩⟩
   case round =>
    clear H'
    try clear c2
    try clear c2b0
    try clear c2b1
    try clear p2
    try clear c3
    try clear c3b0
    try clear c3b1
    obtain ⟨x3_1, x4_1, rfl, HA, HK1, HO_3, HB⟩ := hrel
    cases gk with
    | zero => exact absurd HA.out (by simp [laws_toPegS.l0])
    | succ k1 =>
     have H := HA.out
     clear HA
     simp only [laws_toPegS.l0] at H
     by_cases c6 : x4_1 < (l0.length : Int)
     ·rw [if_pos c6] at H
      have c6b0 : decide (x4_1 < (l0.length : Int)) = true := decide_eq_true c6
      clear c6
      by_cases c7 : 0 ≤ x4_1
      ·rw [if_pos c7] at H
       have c7b0 : decide (0 ≤ x4_1) = true := decide_eq_true c7
       clear c7
       replace H := Option.bind_eq_some_iff.mp H
       obtain ⟨⟨t170, t171⟩, A80, H⟩ := H
       replace H : (if x4_1 < (x3_1.length : Int) then (laws_toPegS.l0 k1 l0 (x3_1.set (x4_1 : Int).toNat (⟨t170, t171⟩ : S33)) (wrap64 (x4_1 + 1))) else (none)) = some r := H
       have A8 := Aside0.mk A80
       clear A80
       by_cases c9 : x4_1 < (x3_1.length : Int)
       ·rw [if_pos c9] at H
        have c9b0 : decide (x4_1 < (x3_1.length : Int)) = true := decide_eq_true c9
        clear c9
        obtain ⟨y172, hy172⟩ : ∃ y_ : List (S33), y_ = (x3_1.set (x4_1 : Int).toNat (⟨t170, t171⟩ : S33)) := ⟨_, rfl⟩
        replace H : (laws_toPegS.l0 k1 l0 y172 (wrap64 (x4_1 + 1))) = some r := by first | (rw [hy172]; with_reducible exact H) | (have H2_ := (Option.bind_some _ _).symm.trans H; rw [hy172]; with_reducible exact H2_) | (have H2_ := (Option.bind_some _ _).symm.trans H; with_reducible exact H2_) | with_reducible exact H | (rw [hy172]; exact H) | exact H
        have Ny172 := Aside0.mk hy172
        clear hy172
        have H' := Aside0.mk H
        clear H
        have p169 : 0 ≤ (x4_1 : Int) := of_decide_eq_true (by first | (with_reducible assumption) | assumption)
        have q169 : x4_1 < (l0.length : Int) := of_decide_eq_true (by first | (with_reducible assumption) | assumption)
        obtain ⟨ad169, e169, hx169_0, hx169_1⟩ := at_T35 HR0.out x4_1 p169 q169
        cases e169
        replace hx169_0 := zc HB hx169_0
        replace hx169_1 := zc HB hx169_1
        replace p169 := eq_true p169
        replace q169 := eq_true q169
        go_wp2_with (first | ((with_reducible refine gate_callee (f := 11) rfl ?_); refine goesL_ (some 20) rfl rfl Tryd.func11 (by kernel_rfl) rfl #[.agg #[.int .i64 ((rd_T35 l0 x4_1).f0), .int .i64 ((rd_T35 l0 x4_1).f1)]] rfl zn ?_; (with_reducible refine (laws_toPeg.calls ((rd_T35 l0 x4_1).f0) ((rd_T35 l0 x4_1).f1) t170 t171 _ A8.out).mono ?_); rintro e w11 ⟨rfl, hb⟩; refine ⟨_, rfl, ?_⟩; have n0_ := Aside0.mk (Kd.R_below (by (with_reducible repeat (first | apply Kd.R_alloc | apply Kd.R_drewN | apply Kd.R_drew)); exact HO_3.out) hb); have n1_ := Aside0.mk (below_step zb hb); clear HO_3; clear HB; have HO_3 := n0_; have HB := n1_; clear n0_ n1_; (try clear hb); (try clear hb2); (try clear hk); (try clear hi); have p10 : 0 ≤ (x4_1 : Int) := of_decide_eq_true (by first | (with_reducible assumption) | assumption); have q10 : (x4_1 : Int) < ((x3_1.length : Int) : Int) := of_decide_eq_true (by first | (with_reducible assumption) | assumption); obtain ⟨go10, co10, eo10, gb10, gl10, cl10, HG10⟩ := Kd.R_form HO_3.out (by omega); (first | cases eo10 | (injection eo10 with ea_ en_ ec_; (first | subst ea_ | (injection ea_ with ea_; subst ea_)); subst ec_; clear en_)); have GB10 := Aside0.mk gb10; have GG10 := Aside0.mk HG10; clear gb10 gl10 HG10; obtain ⟨ce10, hcl10, hM10, hcc10, hfr10⟩ := Kd.R_elem HO_3.out z33 (x4_1 : Int) p10 q10; obtain rfl := k33_openM hM10; have hx10_0 : w11.cell? ⟨go10, (x4_1 : Int).toNat * 2, none⟩ = some (.int .i64 ((rd_T33 x3_1 x4_1).f0)) := hcc10 0 _ rfl; have hx10_1 : w11.cell? ⟨go10, (x4_1 : Int).toNat * 2 + 1, none⟩ = some (.int .i64 ((rd_T33 x3_1 x4_1).f1)) := hcc10 1 _ rfl; have hf10_0 : w11.frozen? ⟨go10, (x4_1 : Int).toNat * 2, none⟩ = false := hfr10 0; have hf10_1 : w11.frozen? ⟨go10, (x4_1 : Int).toNat * 2 + 1, none⟩ = false := hfr10 1; clear hcl10 hcc10 hfr10 hM10; replace p10 := eq_true p10; replace q10 := eq_true q10; have HX12 := Aside0.mk (show Kd.R k33 33 w11 w.heap.size (fun _ => True) (.slice (some ⟨go10, 0, none⟩) x3_1.length co10) x3_1 from (by (with_reducible repeat (first | apply Kd.R_alloc | apply Kd.R_drewN | apply Kd.R_drew)); exact HO_3.out)); obtain ⟨ce12, hcl12, hM12, hcc12, hfr12⟩ := Kd.R_elem HX12.out z33 (x4_1 : Int) (of_decide_eq_true (by first | (with_reducible assumption) | assumption)) (by have h_ : (x4_1 : Int) < ((x3_1.length : Int) : Int) := of_decide_eq_true (by first | (with_reducible assumption) | assumption); first | exact h_ | (have e_ := (Kd.R_reads' HO_3.out).1; omega) | simpa using h_); obtain rfl := k33_openM hM12; have HP12 := Kd.R_seg HX12.out (x4_1 : Int) (of_decide_eq_true (by first | (with_reducible assumption) | assumption)) (by have h_ : (x4_1 : Int) < ((x3_1.length : Int) : Int) := of_decide_eq_true (by first | (with_reducible assumption) | assumption); first | exact h_ | (have e_ := (Kd.R_reads' HO_3.out).1; omega) | simpa using h_) (seg := [.int .i64 t170, .int .i64 t171]) (j := 0) hcl12 hcc12 (show 2 ≤ 2 from by decide) (x' := (⟨t170, t171⟩ : S33)) (k33_mkM _ _ _ (⟨t170, t171⟩ : S33) ) (fun _ hk => hk); have hx12_0 := hcc12 0 _ rfl; (try simp only [show (k33).sz = 2 from rfl, Nat.mul_one, Nat.add_zero] at hx12_0); have hf12_0 := hfr12 0; (try simp only [show (k33).sz = 2 from rfl, Nat.mul_one, Nat.add_zero] at hf12_0); have hx12_1 := hcc12 1 _ rfl; (try simp only [show (k33).sz = 2 from rfl, Nat.mul_one, Nat.add_zero] at hx12_1); have hf12_1 := hfr12 1; (try simp only [show (k33).sz = 2 from rfl, Nat.mul_one, Nat.add_zero] at hf12_1); clear hcl12 hcc12 hfr12 hM12) | ((with_reducible refine gate_store (t := 33) (p := 21) rfl ?_); refine store_event (t := 33) (p := 21) (v := ?vo_w13) (w1 := ((w11.setCell ⟨go10, (x4_1 : Int).toNat * 2, none⟩ (.int .i64 t170)).setCell ⟨go10, (x4_1 : Int).toNat * 2 + 1, none⟩ (.int .i64 t171))) ?hg ?ho ?hn ?hr ?_; (case ho => rfl); (case hg => rfl); (case hn => rfl); (case hr => first | (go_simp; done) | (go_simp; rfl)); intro w13 hw; have hg : w11.grownBy w13 (some go10) := (by rw [hw]; exact HP12.2); have hp_ : Kd.R k33 33 w13 w.heap.size (fun _ => True) (.slice (some ⟨go10, 0, none⟩) x3_1.length co10) y172 := (by rw [hw, Ny172.out]; exact HP12.1); clear HP12; have n0_ := Aside0.mk (hp_); have n1_ := Aside0.mk ((by rw [hw]; exact below_set (below_set (HB.out) GB10.out) GB10.out : Below w.heap.size w w13)); clear HO_3; clear HB; have HO_3 := n0_; have HB := n1_; clear n0_ n1_; clear hg hw hp_))
        go_roundg k1
        case measure => have := HK1.out; omega
        case rel => exact ⟨(y172), (wrap64 (x4_1 + 1)), (by first | rfl | (simp; done) | (simp [*]; done)), H', ⟨by have := HK1.out; omega⟩, ⟨by (with_reducible repeat (first | apply Kd.R_alloc | apply Kd.R_drewN | apply Kd.R_drew)); exact HO_3.out⟩, ⟨zb⟩⟩
       ·rw [if_neg c9] at H
        exact absurd H (by simp)
      ·rw [if_neg c7] at H
       exact absurd H (by simp)
     ·rw [if_neg c6] at H
      have c6b0 : decide (x4_1 < (l0.length : Int)) = false := decide_eq_false c6
      clear c6
      obtain rfl := Option.some.inj H
      go_wp2
      go_ret
      exact ⟨_, by first | rfl | (simp [errW_none, errW_some] <;> rfl) | (simp [*, errW_none, errW_some] <;> rfl), by (with_reducible repeat (first | apply Kd.R_alloc | apply Kd.R_drewN | apply Kd.R_drew)); exact HO_3.out, zb⟩
  ·rw [if_neg c3] at H
   exact absurd H (by simp)
 ·rw [if_neg c2] at H
  exact absurd H (by simp)
def impl_within.f (a0 : Int) (a1 : Int) (a2 : Int) : Option (Bool) := if a0 ≥ a1 then (some (decide (a0 ≤ a2))) else (some false)
set_option maxHeartbeats 8000000 in
set_option maxRecDepth 100000 in
theorem impl_within.calls (a0 : Int) (a1 : Int) (a2 : Int) (r : Bool) (w : World) (h : impl_within.f a0 a1 a2 = some r) :
  Calls Tryd.prog 20 #[.int .i64 a0, .int .i64 a1, .int .i64 a2] w fun e w' => e = .returned (.bool r) ∧ Drawn0 w w' := by
 have H : (if a0 ≥ a1 then (some (decide (a0 ≤ a2))) else (some false)) = some r := h
 clear h
 by_cases c4 : a0 ≥ a1
 ·rw [if_pos c4] at H
  have c4b0 : decide (a1 ≤ a0) = true := decide_eq_true c4
  clear c4
  obtain rfl := Option.some.inj H
  go_enter Tryd.func20, Tryd.ntmps20
  go_wp2
  go_ret
  exact ⟨by first | rfl | (simp; done) | (simp [*]; done), by repeat (first | exact Drawn0.refl _ | apply Drawn0.step)⟩
 ·rw [if_neg c4] at H
  have c4b0 : decide (a1 ≤ a0) = false := decide_eq_false c4
  clear c4
  obtain rfl := Option.some.inj H
  go_enter Tryd.func20, Tryd.ntmps20
  go_wp2
  go_ret
  exact ⟨by first | rfl | (simp; done) | (simp [*]; done), by repeat (first | exact Drawn0.refl _ | apply Drawn0.step)⟩
def impl_IsPeg.f (a0_0 : Int) (a0_1 : Int) : Option (Bool) := (impl_within.f a0_0 (-40) 40).bind fun t174 => (if t174 = true then ((impl_within.f a0_1 (-40) 40).bind fun t175 => (some t175)) else (some false))
set_option maxHeartbeats 8000000 in
set_option maxRecDepth 100000 in
theorem impl_IsPeg.calls (a0_0 : Int) (a0_1 : Int) (r : Bool) (w : World) (h : impl_IsPeg.f a0_0 a0_1 = some r) :
  Calls Tryd.prog 33 #[.agg #[.int .i64 a0_0, .int .i64 a0_1]] w fun e w' => e = .returned (.bool r) ∧ Below w.heap.size w w' := by
 have hu33 := Tryd.underlying33
 have HB := Aside0.mk (Below.refl w.heap.size w)
 have H : ((impl_within.f a0_0 (-40) 40).bind fun t174 => (if t174 = true then ((impl_within.f a0_1 (-40) 40).bind fun t175 => (some t175)) else (some false))) = some r := h
 clear h
 replace H := Option.bind_eq_some_iff.mp H
 obtain ⟨t174, A20, H⟩ := H
 replace H : (if t174 = true then ((impl_within.f a0_1 (-40) 40).bind fun t175 => (some t175)) else (some false)) = some r := H
 have A2 := Aside0.mk A20
 clear A20
 by_cases c3 : t174 = true
 ·subst c3
  have H1 : ((impl_within.f a0_1 (-40) 40).bind fun t175 => (some t175)) = some r := by rw [if_pos rfl] at H; exact H
  clear H
  have H := H1
  clear H1
  replace H := Option.bind_eq_some_iff.mp H
  obtain ⟨t175, A40, H⟩ := H
  replace H : (some t175) = some r := H
  have A4 := Aside0.mk A40
  clear A40
  obtain rfl := Option.some.inj H
  go_enter Tryd.func33, Tryd.ntmps33
  go_wp2_with (first | ((with_reducible refine gate_dst (N := 1) rfl ?_); refine box_event ?hg (N := 1) ?hd (cs := #[.int .i64 a0_0, .int .i64 a0_1]) (t := 33) ?hr ?_; (case hd => rfl); (case hg => rfl); (case hr => first | (go_simp; done) | (go_simp; rfl)); intro gb173 hg w5 hbox hb; have n0_ := Aside0.mk (below_step zb hb); have n1_ := Aside0.mk (hbox); have n2_ := Aside0.mk ((by rw [hg]; exact (below_size zb) : w.heap.size ≤ gb173)); have n3_ := Aside0.mk ((by rw [hg]; exact (below_size zb) : w.heap.size ≤ gb173)); clear HB; have HB := n0_; have BK173 := n1_; have GW173 := n2_; have GE173 := n3_; clear n0_ n1_ n2_ n3_; clear hb hbox hg; have hcz6_0 : w5.cell? ⟨gb173, 0, none⟩ = some (.int .i64 a0_0) := (blk_cell BK173.out 0).trans rfl; have hcz6_1 : w5.cell? ⟨gb173, 1, none⟩ = some (.int .i64 a0_1) := (blk_cell BK173.out 1).trans rfl; have hfz6_0 := blk_frozen BK173.out 0; have hfz6_1 := blk_frozen BK173.out 1) | ((with_reducible refine gate_callee (f := 20) rfl ?_); refine goesL_ (some 5) rfl rfl Tryd.func20 (by kernel_rfl) rfl #[.int .i64 a0_0, .int .i64 (-40), .int .i64 40] rfl zn ?_; (with_reducible refine (impl_within.calls a0_0 (-40) 40 true _ A2.out).mono ?_); rintro e w' ⟨rfl, ⟨nd, rfl⟩⟩; refine ⟨_, rfl, ?_⟩) | (go_at_call 20; (with_reducible refine (impl_within.calls a0_1 (-40) 40 t175 _ A4.out).mono ?_); rintro e w' ⟨rfl, ⟨nd, rfl⟩⟩))
  go_ret
  exact ⟨by first | rfl | (simp [errW_none, errW_some] <;> rfl) | (simp [*, errW_none, errW_some] <;> rfl), zb⟩
 ·replace c3 := Bool.eq_false_iff.mpr c3
  subst c3
  have H1 : (some false) = some r := by rw [if_neg (show ¬ (false = true) by decide)] at H; exact H
  clear H
  have H := H1
  clear H1
  obtain rfl := Option.some.inj H
  go_enter Tryd.func33, Tryd.ntmps33
  go_wp2_with (first | ((with_reducible refine gate_dst (N := 1) rfl ?_); refine box_event ?hg (N := 1) ?hd (cs := #[.int .i64 a0_0, .int .i64 a0_1]) (t := 33) ?hr ?_; (case hd => rfl); (case hg => rfl); (case hr => first | (go_simp; done) | (go_simp; rfl)); intro gb173 hg w7 hbox hb; have n0_ := Aside0.mk (below_step zb hb); have n1_ := Aside0.mk (hbox); have n2_ := Aside0.mk ((by rw [hg]; exact (below_size zb) : w.heap.size ≤ gb173)); have n3_ := Aside0.mk ((by rw [hg]; exact (below_size zb) : w.heap.size ≤ gb173)); clear HB; have HB := n0_; have BK173 := n1_; have GW173 := n2_; have GE173 := n3_; clear n0_ n1_ n2_ n3_; clear hb hbox hg; have hcz8_0 : w7.cell? ⟨gb173, 0, none⟩ = some (.int .i64 a0_0) := (blk_cell BK173.out 0).trans rfl; have hcz8_1 : w7.cell? ⟨gb173, 1, none⟩ = some (.int .i64 a0_1) := (blk_cell BK173.out 1).trans rfl; have hfz8_0 := blk_frozen BK173.out 0; have hfz8_1 := blk_frozen BK173.out 1) | ((with_reducible refine gate_callee (f := 20) rfl ?_); refine goesL_ (some 5) rfl rfl Tryd.func20 (by kernel_rfl) rfl #[.int .i64 a0_0, .int .i64 (-40), .int .i64 40] rfl zn ?_; (with_reducible refine (impl_within.calls a0_0 (-40) 40 false _ A2.out).mono ?_); rintro e w' ⟨rfl, ⟨nd, rfl⟩⟩; refine ⟨_, rfl, ?_⟩))
  go_ret
  exact ⟨by first | rfl | (simp [errW_none, errW_some] <;> rfl) | (simp [*, errW_none, errW_some] <;> rfl), zb⟩
def impl_arePegs_1.f (a0_0 : Int) (a0_1 : Int) : Option (Bool) := (impl_IsPeg.f a0_0 a0_1).bind fun t177 => (some (!t177))
set_option maxHeartbeats 8000000 in
set_option maxRecDepth 100000 in
theorem impl_arePegs_1.calls (a0_0 : Int) (a0_1 : Int) (r : Bool) (w : World) (h : impl_arePegs_1.f a0_0 a0_1 = some r) :
  Calls Tryd.prog 32 #[.agg #[.int .i64 a0_0, .int .i64 a0_1]] w fun e w' => e = .returned (.bool r) ∧ Below w.heap.size w w' := by
 have hu33 := Tryd.underlying33
 have HB := Aside0.mk (Below.refl w.heap.size w)
 have H : ((impl_IsPeg.f a0_0 a0_1).bind fun t177 => (some (!t177))) = some r := h
 clear h
 replace H := Option.bind_eq_some_iff.mp H
 obtain ⟨t177, A20, H⟩ := H
 replace H : (some (!t177)) = some r := H
 have A2 := Aside0.mk A20
 clear A20
 obtain rfl := Option.some.inj H
 go_enter Tryd.func32, Tryd.ntmps32
 go_wp2_with (first | ((with_reducible refine gate_dst (N := 1) rfl ?_); refine box_event ?hg (N := 1) ?hd (cs := #[.int .i64 a0_0, .int .i64 a0_1]) (t := 33) ?hr ?_; (case hd => rfl); (case hg => rfl); (case hr => first | (go_simp; done) | (go_simp; rfl)); intro gb176 hg w3 hbox hb; have n0_ := Aside0.mk (below_step zb hb); have n1_ := Aside0.mk (hbox); have n2_ := Aside0.mk ((by rw [hg]; exact (below_size zb) : w.heap.size ≤ gb176)); have n3_ := Aside0.mk ((by rw [hg]; exact (below_size zb) : w.heap.size ≤ gb176)); clear HB; have HB := n0_; have BK176 := n1_; have GW176 := n2_; have GE176 := n3_; clear n0_ n1_ n2_ n3_; clear hb hbox hg; have hcz4_0 : w3.cell? ⟨gb176, 0, none⟩ = some (.int .i64 a0_0) := (blk_cell BK176.out 0).trans rfl; have hcz4_1 : w3.cell? ⟨gb176, 1, none⟩ = some (.int .i64 a0_1) := (blk_cell BK176.out 1).trans rfl; have hfz4_0 := blk_frozen BK176.out 0; have hfz4_1 := blk_frozen BK176.out 1) | ((with_reducible refine gate_callee (f := 33) rfl ?_); refine goesL_ (some 4) rfl rfl Tryd.func33 (by kernel_rfl) rfl #[.agg #[.int .i64 a0_0, .int .i64 a0_1]] rfl zn ?_; (with_reducible refine (impl_IsPeg.calls a0_0 a0_1 t177 _ A2.out).mono ?_); rintro e w5 ⟨rfl, hb⟩; refine ⟨_, rfl, ?_⟩; have n0_ := Aside0.mk (blk_below (g := gb176) (o := .cells #[.int .i64 a0_0, .int .i64 a0_1] 33 (0, 0)) zk hb); have n1_ := Aside0.mk (below_step zb hb); clear BK176; clear HB; have BK176 := n0_; have HB := n1_; clear n0_ n1_; (try clear hb); (try clear hb2); (try clear hk); (try clear hi)))
 go_ret
 exact ⟨by first | rfl | (simp [errW_none, errW_some] <;> rfl) | (simp [*, errW_none, errW_some] <;> rfl), zb⟩
def impl_Peg_43.l0 : Nat → List (S33) → Int → Int → Option (Int)
 | 0, _, _, _ => none
 | k + 1, x0, x7, x8 => if x8 < x7 then (if 0 ≤ x8 then (if x8 < (x0.length : Int) then ((impl_arePegs_1.f ((rd_T33 x0 x8).f0) ((rd_T33 x0 x8).f1)).bind fun t179 => (if t179 = true then (some x8) else (impl_Peg_43.l0 k x0 x7 (wrap64 (x8 + 1))))) else (none)) else (none)) else (some (-1))
def impl_Peg_43.f (k : Nat) (l0 : List (S33)) : Option (Int) := impl_Peg_43.l0 k l0 (l0.length : Int) 0
set_option maxHeartbeats 8000000 in
set_option maxRecDepth 100000 in
theorem impl_Peg_43.calls (k : Nat) (A0 : Option Addr) (c0 : Nat) (l0 : List (S33)) (r : Int) (w : World) (hr0 : Kd.C k33 w A0 l0.length l0) (hc0 : l0.length ≤ c0) (h : impl_Peg_43.f k l0 = some r) :
  Calls Tryd.prog 43 #[.slice A0 l0.length c0, .func (.func 32) #[] #[]] w fun e w' => e = .returned (.int .i64 r) ∧ Below w.heap.size w w' := by
 have hu33 := Tryd.underlying33
 have HR0 := Aside0.mk hr0
 have HC0 := Aside0.mk hc0
 clear hr0 hc0
 have HB := Aside0.mk (Below.refl w.heap.size w)
 have H : (impl_Peg_43.l0 k l0 (l0.length : Int) 0) = some r := h
 clear h
 have H' := Aside0.mk H
 clear H
 go_enter Tryd.func43, Tryd.ntmps43
 go_wp2
 go_loopg [8] k (fun kq v8 w' => ∃ (x8_1 : Int), v8 = .int .i64 x8_1 ∧ Aside0 (impl_Peg_43.l0 kq l0 (l0.length : Int) x8_1 = some r) ∧ Aside0 (kq ≤ k) ∧ Aside0 (Below w.heap.size w w'))
 case atStart => exact ⟨(0), (by first | rfl | (simp; done) | (simp [*]; done)), H', ⟨Nat.le_refl _⟩, ⟨zb⟩⟩
 case round =>
  clear H'
  obtain ⟨x8_1, rfl, HA, HK1, HB⟩ := hrel
  cases gk with
  | zero => exact absurd HA.out (by simp [impl_Peg_43.l0])
  | succ k1 =>
   have H := HA.out
   clear HA
   simp only [impl_Peg_43.l0] at H
   by_cases c2 : x8_1 < (l0.length : Int)
   ·rw [if_pos c2] at H
    have c2b0 : decide (x8_1 < (l0.length : Int)) = true := decide_eq_true c2
    clear c2
    by_cases c3 : 0 ≤ x8_1
    ·rw [if_pos c3] at H
     have c3b0 : decide (0 ≤ x8_1) = true := decide_eq_true c3
     clear c3
     by_cases c4 : x8_1 < (l0.length : Int)
     ·rw [if_pos c4] at H
      have c4b0 : decide (x8_1 < (l0.length : Int)) = true := decide_eq_true c4
      clear c4
      replace H := Option.bind_eq_some_iff.mp H
      obtain ⟨t179, A50, H⟩ := H
      replace H : (if t179 = true then (some x8_1) else (impl_Peg_43.l0 k1 l0 (l0.length : Int) (wrap64 (x8_1 + 1)))) = some r := H
      have A5 := Aside0.mk A50
      clear A50
      by_cases c6 : t179 = true
      ·subst c6
       have H1 : (some x8_1) = some r := by rw [if_pos rfl] at H; exact H
       clear H
       have H := H1
       clear H1
       obtain rfl := Option.some.inj H
       have p178 : 0 ≤ (x8_1 : Int) := of_decide_eq_true (by first | (with_reducible assumption) | assumption)
       have q178 : x8_1 < (l0.length : Int) := of_decide_eq_true (by first | (with_reducible assumption) | assumption)
       obtain ⟨ad178, e178, hx178_0, hx178_1⟩ := at_T33 HR0.out x8_1 p178 q178
       cases e178
       replace hx178_0 := zc HB hx178_0
       replace hx178_1 := zc HB hx178_1
       replace p178 := eq_true p178
       replace q178 := eq_true q178
       go_wp2_with (first | ((with_reducible refine YtphpdfcblchpnaaDoorH.gate_calleeV rfl ?_); refine YtphpdfcblchpnaaDoorH.goesV0_ (some 16) rfl rfl Tryd.func32 (by kernel_rfl) rfl #[.agg #[.int .i64 ((rd_T33 l0 x8_1).f0), .int .i64 ((rd_T33 l0 x8_1).f1)]] rfl rfl zn ?_; (with_reducible refine (impl_arePegs_1.calls ((rd_T33 l0 x8_1).f0) ((rd_T33 l0 x8_1).f1) true _ A5.out).mono ?_); rintro e w7 ⟨rfl, hb⟩; refine ⟨_, rfl, ?_⟩; have n0_ := Aside0.mk (below_step zb hb); clear HB; have HB := n0_; clear n0_; (try clear hb); (try clear hb2); (try clear hk); (try clear hi)))
       go_ret
       exact ⟨by first | rfl | (simp [errW_none, errW_some] <;> rfl) | (simp [*, errW_none, errW_some] <;> rfl), zb⟩
      ·replace c6 := Bool.eq_false_iff.mpr c6
       subst c6
       have H1 : (impl_Peg_43.l0 k1 l0 (l0.length : Int) (wrap64 (x8_1 + 1))) = some r := by rw [if_neg (show ¬ (false = true) by decide)] at H; exact H
       clear H
       have H := H1
       clear H1
       have H' := Aside0.mk H
       clear H
       have p178 : 0 ≤ (x8_1 : Int) := of_decide_eq_true (by first | (with_reducible assumption) | assumption)
       have q178 : x8_1 < (l0.length : Int) := of_decide_eq_true (by first | (with_reducible assumption) | assumption)
       obtain ⟨ad178, e178, hx178_0, hx178_1⟩ := at_T33 HR0.out x8_1 p178 q178
       cases e178
       replace hx178_0 := zc HB hx178_0
       replace hx178_1 := zc HB hx178_1
       replace p178 := eq_true p178
       replace q178 := eq_true q178
       go_wp2_with (first | ((with_reducible refine YtphpdfcblchpnaaDoorH.gate_calleeV rfl ?_); refine YtphpdfcblchpnaaDoorH.goesV0_ (some 16) rfl rfl Tryd.func32 (by kernel_rfl) rfl #[.agg #[.int .i64 ((rd_T33 l0 x8_1).f0), .int .i64 ((rd_T33 l0 x8_1).f1)]] rfl rfl zn ?_; (with_reducible refine (impl_arePegs_1.calls ((rd_T33 l0 x8_1).f0) ((rd_T33 l0 x8_1).f1) false _ A5.out).mono ?_); rintro e w8 ⟨rfl, hb⟩; refine ⟨_, rfl, ?_⟩; have n0_ := Aside0.mk (below_step zb hb); clear HB; have HB := n0_; clear n0_; (try clear hb); (try clear hb2); (try clear hk); (try clear hi)))
       go_roundg k1
       case measure => have := HK1.out; omega
       case rel => exact ⟨(wrap64 (x8_1 + 1)), (by first | rfl | (simp; done) | (simp [*]; done)), H', ⟨by have := HK1.out; omega⟩, ⟨zb⟩⟩
     ·rw [if_neg c4] at H
      exact absurd H (by simp)
    ·rw [if_neg c3] at H
     exact absurd H (by simp)
   ·rw [if_neg c2] at H
    have c2b0 : decide (x8_1 < (l0.length : Int)) = false := decide_eq_false c2
    clear c2
    obtain rfl := Option.some.inj H
    go_wp2
    go_ret
    exact ⟨by first | rfl | (simp [errW_none, errW_some] <;> rfl) | (simp [*, errW_none, errW_some] <;> rfl), zb⟩
def impl_Peg_31.f (k : Nat) (l0 : List (S33)) : Option (Bool) := (impl_Peg_43.f k l0).bind fun t180 => (some (decide (t180 ≥ 0)))
set_option maxHeartbeats 8000000 in
set_option maxRecDepth 100000 in
theorem impl_Peg_31.calls (k : Nat) (A0 : Option Addr) (c0 : Nat) (l0 : List (S33)) (r : Bool) (w : World) (hr0 : Kd.C k33 w A0 l0.length l0) (hc0 : l0.length ≤ c0) (h : impl_Peg_31.f k l0 = some r) :
  Calls Tryd.prog 31 #[.slice A0 l0.length c0, .func (.func 32) #[] #[]] w fun e w' => e = .returned (.bool r) ∧ Below w.heap.size w w' := by
 have HR0 := Aside0.mk hr0
 have HC0 := Aside0.mk hc0
 clear hr0 hc0
 have HB := Aside0.mk (Below.refl w.heap.size w)
 have H : ((impl_Peg_43.f k l0).bind fun t180 => (some (decide (t180 ≥ 0)))) = some r := h
 clear h
 replace H := Option.bind_eq_some_iff.mp H
 obtain ⟨t180, A20, H⟩ := H
 replace H : (some (decide (t180 ≥ 0))) = some r := H
 have A2 := Aside0.mk A20
 clear A20
 obtain rfl := Option.some.inj H
 go_enter Tryd.func31, Tryd.ntmps31
 go_wp2_with (first | ((with_reducible refine gate_callee (f := 43) rfl ?_); refine goesL_ (some 7) rfl rfl Tryd.func43 (by kernel_rfl) rfl #[.slice A0 l0.length c0, .func (.func 32) #[] #[]] rfl zn ?_; (with_reducible refine (impl_Peg_43.calls k _ _ l0 t180 _ ?side1 ?side2 A2.out).mono ?_); (case side1 => repeat (first | exact HR0.out | (with_reducible refine Kd.C_alloc ?_ _) | (with_reducible refine Kd.C_drewN ?_ _) | (with_reducible refine Kd.C_drew ?_))); (case side2 => exact HC0.out); rintro e w3 ⟨rfl, hb⟩; refine ⟨_, rfl, ?_⟩; have n0_ := Aside0.mk (below_step zb hb); clear HB; have HB := n0_; clear n0_; (try clear hb); (try clear hb2); (try clear hk); (try clear hi)))
 go_ret
 exact ⟨by first | rfl | (simp [errW_none, errW_some] <;> rfl) | (simp [*, errW_none, errW_some] <;> rfl), zb⟩
def impl_arePegs.f (k : Nat) (l0 : List (S33)) : Option (Bool) := (impl_Peg_31.f k l0).bind fun t181 => (some (!t181))
set_option maxHeartbeats 8000000 in
set_option maxRecDepth 100000 in
theorem impl_arePegs.calls (k : Nat) (A0 : Option Addr) (c0 : Nat) (l0 : List (S33)) (r : Bool) (w : World) (hr0 : Kd.C k33 w A0 l0.length l0) (hc0 : l0.length ≤ c0) (h : impl_arePegs.f k l0 = some r) :
  Calls Tryd.prog 21 #[.slice A0 l0.length c0] w fun e w' => e = .returned (.bool r) ∧ Below w.heap.size w w' := by
 have HR0 := Aside0.mk hr0
 have HC0 := Aside0.mk hc0
 clear hr0 hc0
 have HB := Aside0.mk (Below.refl w.heap.size w)
 have H : ((impl_Peg_31.f k l0).bind fun t181 => (some (!t181))) = some r := h
 clear h
 replace H := Option.bind_eq_some_iff.mp H
 obtain ⟨t181, A20, H⟩ := H
 replace H : (some (!t181)) = some r := H
 have A2 := Aside0.mk A20
 clear A20
 obtain rfl := Option.some.inj H
 go_enter Tryd.func21, Tryd.ntmps21
 go_wp2_with (first | ((with_reducible refine gate_callee (f := 31) rfl ?_); refine goesL_ (some 4) rfl rfl Tryd.func31 (by kernel_rfl) rfl #[.slice A0 l0.length c0, .func (.func 32) #[] #[]] rfl zn ?_; (with_reducible refine (impl_Peg_31.calls k _ _ l0 t181 _ ?side1 ?side2 A2.out).mono ?_); (case side1 => repeat (first | exact HR0.out | (with_reducible refine Kd.C_alloc ?_ _) | (with_reducible refine Kd.C_drewN ?_ _) | (with_reducible refine Kd.C_drew ?_))); (case side2 => exact HC0.out); rintro e w3 ⟨rfl, hb⟩; refine ⟨_, rfl, ?_⟩; have n0_ := Aside0.mk (below_step zb hb); clear HB; have HB := n0_; clear n0_; (try clear hb); (try clear hb2); (try clear hk); (try clear hi)))
 go_ret
 exact ⟨by first | rfl | (simp [errW_none, errW_some] <;> rfl) | (simp [*, errW_none, errW_some] <;> rfl), zb⟩
def impl_Peg_34.l0 : Nat → List (S33) → Int → Int → Int → Int → Option (Int)
 | 0, _, _, _, _, _ => none
 | k + 1, x0, x7, x8, x183000, x183001 => if x8 < x7 then (if 0 ≤ x8 then (if x8 < (x0.length : Int) then (if (x183000 == ((rd_T33 x0 x8).f0) && (x183001 == ((rd_T33 x0 x8).f1))) = true then (some x8) else (impl_Peg_34.l0 k x0 x7 (wrap64 (x8 + 1)) x183000 x183001)) else (none)) else (none)) else (some (-1))
def impl_Peg_34.f (k : Nat) (l0 : List (S33)) (a1_0 : Int) (a1_1 : Int) : Option (Int) := impl_Peg_34.l0 k l0 (l0.length : Int) 0 a1_0 a1_1
set_option maxHeartbeats 8000000 in
set_option maxRecDepth 100000 in
theorem impl_Peg_34.calls (k : Nat) (A0 : Option Addr) (c0 : Nat) (l0 : List (S33)) (a1_0 : Int) (a1_1 : Int) (r : Int) (w : World) (hr0 : Kd.C k33 w A0 l0.length l0) (hc0 : l0.length ≤ c0) (h : impl_Peg_34.f k l0 a1_0 a1_1 = some r) :
  Calls Tryd.prog 34 #[.slice A0 l0.length c0, .agg #[.int .i64 a1_0, .int .i64 a1_1]] w fun e w' => e = .returned (.int .i64 r) ∧ Below w.heap.size w w' := by
 have hu33 := Tryd.underlying33
 have HR0 := Aside0.mk hr0
 have HC0 := Aside0.mk hc0
 clear hr0 hc0
 have HB := Aside0.mk (Below.refl w.heap.size w)
 have H : (impl_Peg_34.l0 k l0 (l0.length : Int) 0 a1_0 a1_1) = some r := h
 clear h
 have H' := Aside0.mk H
 clear H
 go_enter Tryd.func34, Tryd.ntmps34
 go_wp2_with (first | ((with_reducible refine gate_dst (N := 3) rfl ?_); refine box_event ?hg (N := 3) ?hd (cs := #[.int .i64 a1_0, .int .i64 a1_1]) (t := 33) ?hr ?_; (case hd => rfl); (case hg => rfl); (case hr => first | (go_simp; done) | (go_simp; rfl)); intro gb182 hg w3 hbox hb; have n0_ := Aside0.mk (below_step zb hb); have n1_ := Aside0.mk (hbox); have n2_ := Aside0.mk ((by rw [hg]; exact (below_size zb) : w.heap.size ≤ gb182)); have n3_ := Aside0.mk ((by rw [hg]; exact (below_size zb) : w.heap.size ≤ gb182)); clear HB; have HB := n0_; have BK182 := n1_; have GW182 := n2_; have GE182 := n3_; clear n0_ n1_ n2_ n3_; clear hb hbox hg))
 repeat (go_quiet (first | ((with_reducible refine gate_dst (N := 3) rfl ?_); refine box_event ?hg (N := 3) ?hd (cs := #[.int .i64 a1_0, .int .i64 a1_1]) (t := 33) ?hr ?_; (case hd => rfl); (case hg => rfl); (case hr => first | (go_simp; done) | (go_simp; rfl)); intro gb182 hg w3 hbox hb; have n0_ := Aside0.mk (below_step zb hb); have n1_ := Aside0.mk (hbox); have n2_ := Aside0.mk ((by rw [hg]; exact (below_size zb) : w.heap.size ≤ gb182)); have n3_ := Aside0.mk ((by rw [hg]; exact (below_size zb) : w.heap.size ≤ gb182)); clear HB; have HB := n0_; have BK182 := n1_; have GW182 := n2_; have GE182 := n3_; clear n0_ n1_ n2_ n3_; clear hb hbox hg)); try go_wp2_with (first | ((with_reducible refine gate_dst (N := 3) rfl ?_); refine box_event ?hg (N := 3) ?hd (cs := #[.int .i64 a1_0, .int .i64 a1_1]) (t := 33) ?hr ?_; (case hd => rfl); (case hg => rfl); (case hr => first | (go_simp; done) | (go_simp; rfl)); intro gb182 hg w3 hbox hb; have n0_ := Aside0.mk (below_step zb hb); have n1_ := Aside0.mk (hbox); have n2_ := Aside0.mk ((by rw [hg]; exact (below_size zb) : w.heap.size ≤ gb182)); have n3_ := Aside0.mk ((by rw [hg]; exact (below_size zb) : w.heap.size ≤ gb182)); clear HB; have HB := n0_; have BK182 := n1_; have GW182 := n2_; have GE182 := n3_; clear n0_ n1_ n2_ n3_; clear hb hbox hg)))
 go_loopg [8] k (fun kq v8 w' => ∃ (x8_1 : Int), v8 = .int .i64 x8_1 ∧ Aside0 (impl_Peg_34.l0 kq l0 (l0.length : Int) x8_1 a1_0 a1_1 = some r) ∧ Aside0 (kq ≤ k) ∧ Aside0 (w'.heap[gb182]? = some (.cells #[.int .i64 a1_0, .int .i64 a1_1] 33 (0, 0))) ∧ Aside0 (Below w.heap.size w w'))
 case atStart => exact ⟨(0), (by first | rfl | (simp; done) | (simp [*]; done)), H', ⟨Nat.le_refl _⟩, ⟨zk⟩, ⟨zb⟩⟩
 case round =>
  clear H'
  try clear p2
  try clear c3
  obtain ⟨x8_1, rfl, HA, HK1, BK182, HB⟩ := hrel
  cases gk with
  | zero => exact absurd HA.out (by simp [impl_Peg_34.l0])
  | succ k1 =>
   have H := HA.out
   clear HA
   simp only [impl_Peg_34.l0] at H
   by_cases c4 : x8_1 < (l0.length : Int)
   ·rw [if_pos c4] at H
    have c4b0 : decide (x8_1 < (l0.length : Int)) = true := decide_eq_true c4
    clear c4
    by_cases c5 : 0 ≤ x8_1
    ·rw [if_pos c5] at H
     have c5b0 : decide (0 ≤ x8_1) = true := decide_eq_true c5
     clear c5
     by_cases c6 : x8_1 < (l0.length : Int)
     ·rw [if_pos c6] at H
      have c6b0 : decide (x8_1 < (l0.length : Int)) = true := decide_eq_true c6
      clear c6
      by_cases c7 : (a1_0 == ((rd_T33 l0 x8_1).f0) && (a1_1 == ((rd_T33 l0 x8_1).f1))) = true
      ·rw [if_pos c7] at H
       have c7b0 : (a1_0 == ((rd_T33 l0 x8_1).f0) && (a1_1 == ((rd_T33 l0 x8_1).f1))) = true := c7
       (try (have c7b1 : decide (a1_0 = ((rd_T33 l0 x8_1).f0) && (a1_1 == ((rd_T33 l0 x8_1).f1))) = true := by simpa using c7))
       (try (have c7b2 : (a1_0 == ((rd_T33 l0 x8_1).f0) && (a1_1 == ((rd_T33 l0 x8_1).f1))) = true := by simpa using c7))
       clear c7
       obtain rfl := Option.some.inj H
       have hcz8_0 : wr.cell? ⟨gb182, 0, none⟩ = some (.int .i64 a1_0) := (blk_cell BK182.out 0).trans rfl
       have hcz8_1 : wr.cell? ⟨gb182, 1, none⟩ = some (.int .i64 a1_1) := (blk_cell BK182.out 1).trans rfl
       have hfz8_0 := blk_frozen BK182.out 0
       have hfz8_1 := blk_frozen BK182.out 1
       have p183 : 0 ≤ (x8_1 : Int) := of_decide_eq_true (by first | (with_reducible assumption) | assumption)
       have q183 : x8_1 < (l0.length : Int) := of_decide_eq_true (by first | (with_reducible assumption) | assumption)
       obtain ⟨ad183, e183, hx183_0, hx183_1⟩ := at_T33 HR0.out x8_1 p183 q183
       cases e183
       replace hx183_0 := zc HB hx183_0
       replace hx183_1 := zc HB hx183_1
       replace p183 := eq_true p183
       replace q183 := eq_true q183
       go_wp2
       repeat (go_quiet (fail); try go_wp2)
       go_ret
       exact ⟨by first | rfl | (simp [errW_none, errW_some] <;> rfl) | (simp [*, errW_none, errW_some] <;> rfl), zb⟩
      ·rw [if_neg c7] at H
       have c7b0 : (a1_0 == ((rd_T33 l0 x8_1).f0) && (a1_1 == ((rd_T33 l0 x8_1).f1))) = false := by simpa using c7
       (try (have c7b1 : decide (a1_0 = ((rd_T33 l0 x8_1).f0) && (a1_1 == ((rd_T33 l0 x8_1).f1))) = false := by simpa using c7))
       (try (have c7b2 : (a1_0 == ((rd_T33 l0 x8_1).f0) && (a1_1 == ((rd_T33 l0 x8_1).f1))) = false := by simpa using c7))
       (try (have c7b3 : ¬ (a1_0 = ((rd_T33 l0 x8_1).f0) && (a1_1 == ((rd_T33 l0 x8_1).f1))) := by simpa using c7))
       clear c7
       have H' := Aside0.mk H
       clear H
       have hcz9_0 : wr.cell? ⟨gb182, 0, none⟩ = some (.int .i64 a1_0) := (blk_cell BK182.out 0).trans rfl
       have hcz9_1 : wr.cell? ⟨gb182, 1, none⟩ = some (.int .i64 a1_1) := (blk_cell BK182.out 1).trans rfl
       have hfz9_0 := blk_frozen BK182.out 0
       have hfz9_1 := blk_frozen BK182.out 1
       have p183 : 0 ≤ (x8_1 : Int) := of_decide_eq_true (by first | (with_reducible assumption) | assumption)
       have q183 : x8_1 < (l0.length : Int) := of_decide_eq_true (by first | (with_reducible assumption) | assumption)
       obtain ⟨ad183, e183, hx183_0, hx183_1⟩ := at_T33 HR0.out x8_1 p183 q183
       cases e183
       replace hx183_0 := zc HB hx183_0
       replace hx183_1 := zc HB hx183_1
       replace p183 := eq_true p183
       replace q183 := eq_true q183
       go_wp2
       repeat (go_quiet (fail); try go_wp2)
       go_roundg k1
       case measure => have := HK1.out; omega
       case rel => exact ⟨(wrap64 (x8_1 + 1)), (by first | rfl | (simp; done) | (simp [*]; done)), H', ⟨by have := HK1.out; omega⟩, ⟨zk⟩, ⟨zb⟩⟩
     ·rw [if_neg c6] at H
      exact absurd H (by simp)
    ·rw [if_neg c5] at H
     exact absurd H (by simp)
   ·rw [if_neg c4] at H
    have c4b0 : decide (x8_1 < (l0.length : Int)) = false := decide_eq_false c4
    clear c4
    obtain rfl := Option.some.inj H
    go_wp2
    repeat (go_quiet (fail); try go_wp2)
    go_ret
    exact ⟨by first | rfl | (simp [errW_none, errW_some] <;> rfl) | (simp [*, errW_none, errW_some] <;> rfl), zb⟩
def impl_Peg_22.f (k : Nat) (l0 : List (S33)) (a1_0 : Int) (a1_1 : Int) : Option (Bool) := (impl_Peg_34.f k l0 a1_0 a1_1).bind fun t185 => (some (decide (t185 ≥ 0)))
set_option maxHeartbeats 8000000 in
set_option maxRecDepth 100000 in
theorem impl_Peg_22.calls (k : Nat) (A0 : Option Addr) (c0 : Nat) (l0 : List (S33)) (a1_0 : Int) (a1_1 : Int) (r : Bool) (w : World) (hr0 : Kd.C k33 w A0 l0.length l0) (hc0 : l0.length ≤ c0) (h : impl_Peg_22.f k l0 a1_0 a1_1 = some r) :
  Calls Tryd.prog 22 #[.slice A0 l0.length c0, .agg #[.int .i64 a1_0, .int .i64 a1_1]] w fun e w' => e = .returned (.bool r) ∧ Below w.heap.size w w' := by
 have hu33 := Tryd.underlying33
 have HR0 := Aside0.mk hr0
 have HC0 := Aside0.mk hc0
 clear hr0 hc0
 have HB := Aside0.mk (Below.refl w.heap.size w)
 have H : ((impl_Peg_34.f k l0 a1_0 a1_1).bind fun t185 => (some (decide (t185 ≥ 0)))) = some r := h
 clear h
 replace H := Option.bind_eq_some_iff.mp H
 obtain ⟨t185, A30, H⟩ := H
 replace H : (some (decide (t185 ≥ 0))) = some r := H
 have A3 := Aside0.mk A30
 clear A30
 obtain rfl := Option.some.inj H
 go_enter Tryd.func22, Tryd.ntmps22
 go_wp2_with (first | ((with_reducible refine gate_dst (N := 3) rfl ?_); refine box_event ?hg (N := 3) ?hd (cs := #[.int .i64 a1_0, .int .i64 a1_1]) (t := 33) ?hr ?_; (case hd => rfl); (case hg => rfl); (case hr => first | (go_simp; done) | (go_simp; rfl)); intro gb184 hg w4 hbox hb; have n0_ := Aside0.mk (below_step zb hb); have n1_ := Aside0.mk (hbox); have n2_ := Aside0.mk ((by rw [hg]; exact (below_size zb) : w.heap.size ≤ gb184)); have n3_ := Aside0.mk ((by rw [hg]; exact (below_size zb) : w.heap.size ≤ gb184)); clear HB; have HB := n0_; have BK184 := n1_; have GW184 := n2_; have GE184 := n3_; clear n0_ n1_ n2_ n3_; clear hb hbox hg; have hcz5_0 : w4.cell? ⟨gb184, 0, none⟩ = some (.int .i64 a1_0) := (blk_cell BK184.out 0).trans rfl; have hcz5_1 : w4.cell? ⟨gb184, 1, none⟩ = some (.int .i64 a1_1) := (blk_cell BK184.out 1).trans rfl; have hfz5_0 := blk_frozen BK184.out 0; have hfz5_1 := blk_frozen BK184.out 1) | ((with_reducible refine gate_callee (f := 34) rfl ?_); refine goesL_ (some 7) rfl rfl Tryd.func34 (by kernel_rfl) rfl #[.slice A0 l0.length c0, .agg #[.int .i64 a1_0, .int .i64 a1_1]] rfl zn ?_; (with_reducible refine (impl_Peg_34.calls k _ _ l0 a1_0 a1_1 t185 _ ?side1 ?side2 A3.out).mono ?_); (case side1 => repeat (first | exact (Kd.C_below HR0.out HB.out) | (with_reducible refine Kd.C_alloc ?_ _) | (with_reducible refine Kd.C_drewN ?_ _) | (with_reducible refine Kd.C_drew ?_))); (case side2 => exact HC0.out); rintro e w6 ⟨rfl, hb⟩; refine ⟨_, rfl, ?_⟩; have n0_ := Aside0.mk (blk_below (g := gb184) (o := .cells #[.int .i64 a1_0, .int .i64 a1_1] 33 (0, 0)) zk hb); have n1_ := Aside0.mk (below_step zb hb); clear BK184; clear HB; have BK184 := n0_; have HB := n1_; clear n0_ n1_; (try clear hb); (try clear hb2); (try clear hk); (try clear hi)))
 go_ret
 exact ⟨by first | rfl | (simp [errW_none, errW_some] <;> rfl) | (simp [*, errW_none, errW_some] <;> rfl), zb⟩
def impl_cross.f (a0_0 : Int) (a0_1 : Int) (a1_0 : Int) (a1_1 : Int) : Option (Int) := some (wrap64 ((wrap64 (a0_0 * a1_1)) - (wrap64 (a0_1 * a1_0))))
set_option maxHeartbeats 8000000 in
set_option maxRecDepth 100000 in
theorem impl_cross.calls (a0_0 : Int) (a0_1 : Int) (a1_0 : Int) (a1_1 : Int) (r : Int) (w : World) (h : impl_cross.f a0_0 a0_1 a1_0 a1_1 = some r) :
  Calls Tryd.prog 35 #[.agg #[.int .i64 a0_0, .int .i64 a0_1], .agg #[.int .i64 a1_0, .int .i64 a1_1]] w fun e w' => e = .returned (.int .i64 r) ∧ Below w.heap.size w w' := by
 have hu33 := Tryd.underlying33
 have HB := Aside0.mk (Below.refl w.heap.size w)
 have H : (some (wrap64 ((wrap64 (a0_0 * a1_1)) - (wrap64 (a0_1 * a1_0))))) = some r := h
 clear h
 obtain rfl := Option.some.inj H
 go_enter Tryd.func35, Tryd.ntmps35
 go_wp2_with (first | ((with_reducible refine gate_dst (N := 2) rfl ?_); refine box_event ?hg (N := 2) ?hd (cs := #[.int .i64 a0_0, .int .i64 a0_1]) (t := 33) ?hr ?_; (case hd => rfl); (case hg => rfl); (case hr => first | (go_simp; done) | (go_simp; rfl)); intro gb186 hg w3 hbox hb; have n0_ := Aside0.mk (below_step zb hb); have n1_ := Aside0.mk (hbox); have n2_ := Aside0.mk ((by rw [hg]; exact (below_size zb) : w.heap.size ≤ gb186)); have n3_ := Aside0.mk ((by rw [hg]; exact (below_size zb) : w.heap.size ≤ gb186)); clear HB; have HB := n0_; have BK186 := n1_; have GW186 := n2_; have GE186 := n3_; clear n0_ n1_ n2_ n3_; clear hb hbox hg) | ((with_reducible refine gate_dst (N := 3) rfl ?_); refine box_event ?hg (N := 3) ?hd (cs := #[.int .i64 a1_0, .int .i64 a1_1]) (t := 33) ?hr ?_; (case hd => rfl); (case hg => rfl); (case hr => first | (go_simp; done) | (go_simp; rfl)); intro gb187 hg w4 hbox hb; have n0_ := Aside0.mk (blk_below (g := gb186) (o := .cells #[.int .i64 a0_0, .int .i64 a0_1] 33 (0, 0)) zk hb); have n1_ := Aside0.mk (below_step zb hb); have n2_ := Aside0.mk (hbox); have n3_ := Aside0.mk ((by rw [hg]; exact (below_size zb) : w.heap.size ≤ gb187)); have n4_ := Aside0.mk ((by rw [hg]; exact (below_size zb) : w.heap.size ≤ gb187)); have n5_ := Aside0.mk ((by rw [hg]; exact Nat.ne_of_lt (blk_lt (g := gb186) (o := .cells #[.int .i64 a0_0, .int .i64 a0_1] 33 (0, 0)) zk) : gb186 ≠ gb187)); have n6_ := Aside0.mk ((by rw [hg]; exact Nat.ne_of_gt (blk_lt (g := gb186) (o := .cells #[.int .i64 a0_0, .int .i64 a0_1] 33 (0, 0)) zk) : gb187 ≠ gb186)); clear BK186; clear HB; have BK186 := n0_; have HB := n1_; have BK187 := n2_; have GW187 := n3_; have GE187 := n4_; have NB186_187 := n5_; have NB187_186 := n6_; clear n0_ n1_ n2_ n3_ n4_ n5_ n6_; clear hb hbox hg; have hnb5 := NB186_187.out; have hnc5 := NB187_186.out; have hcz6_0 : w4.cell? ⟨gb186, 0, none⟩ = some (.int .i64 a0_0) := (blk_cell BK186.out 0).trans rfl; have hcz6_1 : w4.cell? ⟨gb186, 1, none⟩ = some (.int .i64 a0_1) := (blk_cell BK186.out 1).trans rfl; have hfz6_0 := blk_frozen BK186.out 0; have hfz6_1 := blk_frozen BK186.out 1; have hcz7_0 : w4.cell? ⟨gb187, 0, none⟩ = some (.int .i64 a1_0) := (blk_cell BK187.out 0).trans rfl; have hcz7_1 : w4.cell? ⟨gb187, 1, none⟩ = some (.int .i64 a1_1) := (blk_cell BK187.out 1).trans rfl; have hfz7_0 := blk_frozen BK187.out 0; have hfz7_1 := blk_frozen BK187.out 1))
 go_ret
 exact ⟨by first | rfl | (simp [errW_none, errW_some] <;> rfl) | (simp [*, errW_none, errW_some] <;> rfl), zb⟩
def impl_Peg_less.f (a0_0 : Int) (a0_1 : Int) (a1_0 : Int) (a1_1 : Int) : Option (Int × Int) := some (wrap64 (a0_0 - a1_0), wrap64 (a0_1 - a1_1))
set_option maxHeartbeats 8000000 in
set_option maxRecDepth 100000 in
theorem impl_Peg_less.calls (a0_0 : Int) (a0_1 : Int) (a1_0 : Int) (a1_1 : Int) (r1 : Int) (r2 : Int) (w : World) (h : impl_Peg_less.f a0_0 a0_1 a1_0 a1_1 = some (r1, r2)) :
  Calls Tryd.prog 36 #[.agg #[.int .i64 a0_0, .int .i64 a0_1], .agg #[.int .i64 a1_0, .int .i64 a1_1]] w fun e w' => e = .returned (.agg #[.int .i64 r1, .int .i64 r2]) ∧ Below w.heap.size w w' := by
 have hu33 := Tryd.underlying33
 have HB := Aside0.mk (Below.refl w.heap.size w)
 have H : (some (wrap64 (a0_0 - a1_0), wrap64 (a0_1 - a1_1))) = some (r1, r2) := h
 clear h
 simp only [Option.some.injEq, Prod.mk.injEq] at H
 obtain ⟨rfl, rfl⟩ := H
 go_enter Tryd.func36, Tryd.ntmps36
 go_wp2_with (first | ((with_reducible refine gate_dst (N := 2) rfl ?_); refine box_event ?hg (N := 2) ?hd (cs := #[.int .i64 a0_0, .int .i64 a0_1]) (t := 33) ?hr ?_; (case hd => rfl); (case hg => rfl); (case hr => first | (go_simp; done) | (go_simp; rfl)); intro gb188 hg w3 hbox hb; have n0_ := Aside0.mk (below_step zb hb); have n1_ := Aside0.mk (hbox); have n2_ := Aside0.mk ((by rw [hg]; exact (below_size zb) : w.heap.size ≤ gb188)); have n3_ := Aside0.mk ((by rw [hg]; exact (below_size zb) : w.heap.size ≤ gb188)); clear HB; have HB := n0_; have BK188 := n1_; have GW188 := n2_; have GE188 := n3_; clear n0_ n1_ n2_ n3_; clear hb hbox hg) | ((with_reducible refine gate_dst (N := 3) rfl ?_); refine box_event ?hg (N := 3) ?hd (cs := #[.int .i64 a1_0, .int .i64 a1_1]) (t := 33) ?hr ?_; (case hd => rfl); (case hg => rfl); (case hr => first | (go_simp; done) | (go_simp; rfl)); intro gb189 hg w4 hbox hb; have n0_ := Aside0.mk (blk_below (g := gb188) (o := .cells #[.int .i64 a0_0, .int .i64 a0_1] 33 (0, 0)) zk hb); have n1_ := Aside0.mk (below_step zb hb); have n2_ := Aside0.mk (hbox); have n3_ := Aside0.mk ((by rw [hg]; exact (below_size zb) : w.heap.size ≤ gb189)); have n4_ := Aside0.mk ((by rw [hg]; exact (below_size zb) : w.heap.size ≤ gb189)); have n5_ := Aside0.mk ((by rw [hg]; exact Nat.ne_of_lt (blk_lt (g := gb188) (o := .cells #[.int .i64 a0_0, .int .i64 a0_1] 33 (0, 0)) zk) : gb188 ≠ gb189)); have n6_ := Aside0.mk ((by rw [hg]; exact Nat.ne_of_gt (blk_lt (g := gb188) (o := .cells #[.int .i64 a0_0, .int .i64 a0_1] 33 (0, 0)) zk) : gb189 ≠ gb188)); clear BK188; clear HB; have BK188 := n0_; have HB := n1_; have BK189 := n2_; have GW189 := n3_; have GE189 := n4_; have NB188_189 := n5_; have NB189_188 := n6_; clear n0_ n1_ n2_ n3_ n4_ n5_ n6_; clear hb hbox hg) | ((with_reducible refine gate_dst (N := 4) rfl ?_); refine box_event ?hg (N := 4) ?hd (cs := #[.int .i64 0, .int .i64 0]) (t := 33) ?hr ?_; (case hd => rfl); (case hg => rfl); (case hr => first | (go_simp; done) | (go_simp; rfl)); intro gb190 hg w5 hbox hb; have n0_ := Aside0.mk (blk_below (g := gb188) (o := .cells #[.int .i64 a0_0, .int .i64 a0_1] 33 (0, 0)) zk hb); have n1_ := Aside0.mk (blk_below (g := gb189) (o := .cells #[.int .i64 a1_0, .int .i64 a1_1] 33 (0, 0)) zk hb); have n2_ := Aside0.mk (below_step zb hb); have n3_ := Aside0.mk (hbox); have n4_ := Aside0.mk ((by rw [hg]; exact (below_size zb) : w.heap.size ≤ gb190)); have n5_ := Aside0.mk ((by rw [hg]; exact (below_size zb) : w.heap.size ≤ gb190)); have n6_ := Aside0.mk ((by rw [hg]; exact Nat.ne_of_lt (blk_lt (g := gb188) (o := .cells #[.int .i64 a0_0, .int .i64 a0_1] 33 (0, 0)) zk) : gb188 ≠ gb190)); have n7_ := Aside0.mk ((by rw [hg]; exact Nat.ne_of_gt (blk_lt (g := gb188) (o := .cells #[.int .i64 a0_0, .int .i64 a0_1] 33 (0, 0)) zk) : gb190 ≠ gb188)); have n8_ := Aside0.mk ((by rw [hg]; exact Nat.ne_of_lt (blk_lt (g := gb189) (o := .cells #[.int .i64 a1_0, .int .i64 a1_1] 33 (0, 0)) zk) : gb189 ≠ gb190)); have n9_ := Aside0.mk ((by rw [hg]; exact Nat.ne_of_gt (blk_lt (g := gb189) (o := .cells #[.int .i64 a1_0, .int .i64 a1_1] 33 (0, 0)) zk) : gb190 ≠ gb189)); clear BK188; clear BK189; clear HB; have BK188 := n0_; have BK189 := n1_; have HB := n2_; have BK190 := n3_; have GW190 := n4_; have GE190 := n5_; have NB188_190 := n6_; have NB190_188 := n7_; have NB189_190 := n8_; have NB190_189 := n9_; clear n0_ n1_ n2_ n3_ n4_ n5_ n6_ n7_ n8_ n9_; clear hb hbox hg; have hnb6 := NB188_189.out; have hnc6 := NB189_188.out; have hnb7 := NB188_190.out; have hnc7 := NB190_188.out; have hcz8_0 : w5.cell? ⟨gb188, 0, none⟩ = some (.int .i64 a0_0) := (blk_cell BK188.out 0).trans rfl; have hcz8_1 : w5.cell? ⟨gb188, 1, none⟩ = some (.int .i64 a0_1) := (blk_cell BK188.out 1).trans rfl; have hfz8_0 := blk_frozen BK188.out 0; have hfz8_1 := blk_frozen BK188.out 1; have hnb9 := NB189_190.out; have hnc9 := NB190_189.out; have hcz10_0 : w5.cell? ⟨gb189, 0, none⟩ = some (.int .i64 a1_0) := (blk_cell BK189.out 0).trans rfl; have hcz10_1 : w5.cell? ⟨gb189, 1, none⟩ = some (.int .i64 a1_1) := (blk_cell BK189.out 1).trans rfl; have hfz10_0 := blk_frozen BK189.out 0; have hfz10_1 := blk_frozen BK189.out 1; have hcz11_0 : w5.cell? ⟨gb190, 0, none⟩ = some (.int .i64 0) := (blk_cell BK190.out 0).trans rfl; have hcz11_1 : w5.cell? ⟨gb190, 1, none⟩ = some (.int .i64 0) := (blk_cell BK190.out 1).trans rfl; have hfz11_0 := blk_frozen BK190.out 0; have hfz11_1 := blk_frozen BK190.out 1))
 refine bodyPost_ret (results_cell_row rfl _ _ gb190 33 #[.int .i64 (wrap64 (a0_0 - a1_0)), .int .i64 (wrap64 (a0_1 - a1_1))] (0, 0) _ rfl (by (with_reducible repeat (first | refine blk_drewN ?_ _ | refine blk_drew ?_ | refine blk_alloc ?_ _)); refine blk_put (cs := #[.int .i64 (wrap64 (a0_0 - a1_0)), .int .i64 0]) ?_ 1 _ rfl; (with_reducible repeat (first | refine blk_drewN ?_ _ | refine blk_drew ?_ | refine blk_alloc ?_ _)); refine blk_put (cs := #[.int .i64 0, .int .i64 0]) ?_ 0 _ rfl; (with_reducible repeat (first | refine blk_drewN ?_ _ | refine blk_drew ?_ | refine blk_alloc ?_ _)); exact BK190.out) Tryd.underlying33 rfl (by kernel_rfl)) rfl ?_
 exact ⟨by first | rfl | (simp [errW_none, errW_some] <;> rfl) | (simp [*, errW_none, errW_some] <;> rfl), zb⟩
def impl_turn.f (a0_0 : Int) (a0_1 : Int) (a1_0 : Int) (a1_1 : Int) (a2_0 : Int) (a2_1 : Int) : Option (Int) := (impl_Peg_less.f a1_0 a1_1 a0_0 a0_1).bind fun bt194 => ((impl_Peg_less.f a2_0 a2_1 a0_0 a0_1).bind fun bt196 => ((impl_cross.f bt194.1 bt194.2 bt196.1 bt196.2).bind fun t198 => (some t198)))
def impl_turn.T1 : Bool × List (List Nat × List Nat) := (true, [([], []), ([], []), ([0, 1], [0, 1]), ([], []), ([], []), ([3, 4, 2], [3, 4]), ([2, 5, 5], [2, 5]), ([6, 6, 0, 1, 2, 3, 4, 5, 6], [6])])
def impl_turn.B1 : List Nat := [0, 0, 3, 0, 0, 31, 63, 127]
theorem impl_turn.tab1 : rtab .any (opsOf Tryd.f23 1) = impl_turn.T1 := by kernel_rfl
theorem impl_turn.bits1 : waitsOk impl_turn.T1.2 impl_turn.B1 = true := by kernel_rfl
set_option maxHeartbeats 8000000 in
set_option maxRecDepth 100000 in
theorem impl_turn.calls (a0_0 : Int) (a0_1 : Int) (a1_0 : Int) (a1_1 : Int) (a2_0 : Int) (a2_1 : Int) (r : Int) (w : World) (h : impl_turn.f a0_0 a0_1 a1_0 a1_1 a2_0 a2_1 = some r) :
  Calls Tryd.prog 23 #[.agg #[.int .i64 a0_0, .int .i64 a0_1], .agg #[.int .i64 a1_0, .int .i64 a1_1], .agg #[.int .i64 a2_0, .int .i64 a2_1]] w fun e w' => e = .returned (.int .i64 r) ∧ Below w.heap.size w w' := by
 have hu33 := Tryd.underlying33
 have HB := Aside0.mk (Below.refl w.heap.size w)
 have H : ((impl_Peg_less.f a1_0 a1_1 a0_0 a0_1).bind fun bt194 => ((impl_Peg_less.f a2_0 a2_1 a0_0 a0_1).bind fun bt196 => ((impl_cross.f bt194.1 bt194.2 bt196.1 bt196.2).bind fun t198 => (some t198)))) = some r := h
 clear h
 replace H := Option.bind_eq_some_iff.mp H
 obtain ⟨⟨t194, t195⟩, A40, H⟩ := H
 replace H : ((impl_Peg_less.f a2_0 a2_1 a0_0 a0_1).bind fun bt196 => ((impl_cross.f t194 t195 bt196.1 bt196.2).bind fun t198 => (some t198))) = some r := H
 have A4 := Aside0.mk A40
 clear A40
 replace H := Option.bind_eq_some_iff.mp H
 obtain ⟨⟨t196, t197⟩, A50, H⟩ := H
 replace H : ((impl_cross.f t194 t195 t196 t197).bind fun t198 => (some t198)) = some r := H
 have A5 := Aside0.mk A50
 clear A50
 replace H := Option.bind_eq_some_iff.mp H
 obtain ⟨t198, A60, H⟩ := H
 replace H : (some t198) = some r := H
 have A6 := Aside0.mk A60
 clear A60
 obtain rfl := Option.some.inj H
 go_enter Tryd.func23, Tryd.ntmps23
 try go_wp2_with (first | ((with_reducible refine gate_dst (N := 3) rfl ?_); refine box_event ?hg (N := 3) ?hd (cs := #[.int .i64 a0_0, .int .i64 a0_1]) (t := 33) ?hr ?_; (case hd => rfl); (case hg => rfl); (case hr => first | (go_simp; done) | (go_simp; rfl)); intro gb191 hg w7 hbox hb; have n0_ := Aside0.mk (below_step zb hb); have n1_ := Aside0.mk (hbox); have n2_ := Aside0.mk ((by rw [hg]; exact (below_size zb) : w.heap.size ≤ gb191)); have n3_ := Aside0.mk ((by rw [hg]; exact (below_size zb) : w.heap.size ≤ gb191)); clear HB; have HB := n0_; have BK191 := n1_; have GW191 := n2_; have GE191 := n3_; clear n0_ n1_ n2_ n3_; clear hb hbox hg) | ((with_reducible refine gate_dst (N := 4) rfl ?_); refine box_event ?hg (N := 4) ?hd (cs := #[.int .i64 a1_0, .int .i64 a1_1]) (t := 33) ?hr ?_; (case hd => rfl); (case hg => rfl); (case hr => first | (go_simp; done) | (go_simp; rfl)); intro gb192 hg w8 hbox hb; have n0_ := Aside0.mk (blk_below (g := gb191) (o := .cells #[.int .i64 a0_0, .int .i64 a0_1] 33 (0, 0)) zk hb); have n1_ := Aside0.mk (below_step zb hb); have n2_ := Aside0.mk (hbox); have n3_ := Aside0.mk ((by rw [hg]; exact (below_size zb) : w.heap.size ≤ gb192)); have n4_ := Aside0.mk ((by rw [hg]; exact (below_size zb) : w.heap.size ≤ gb192)); have n5_ := Aside0.mk ((by rw [hg]; exact Nat.ne_of_lt (blk_lt (g := gb191) (o := .cells #[.int .i64 a0_0, .int .i64 a0_1] 33 (0, 0)) zk) : gb191 ≠ gb192)); have n6_ := Aside0.mk ((by rw [hg]; exact Nat.ne_of_gt (blk_lt (g := gb191) (o := .cells #[.int .i64 a0_0, .int .i64 a0_1] 33 (0, 0)) zk) : gb192 ≠ gb191)); clear BK191; clear HB; have BK191 := n0_; have HB := n1_; have BK192 := n2_; have GW192 := n3_; have GE192 := n4_; have NB191_192 := n5_; have NB192_191 := n6_; clear n0_ n1_ n2_ n3_ n4_ n5_ n6_; clear hb hbox hg) | ((with_reducible refine gate_dst (N := 5) rfl ?_); refine box_event ?hg (N := 5) ?hd (cs := #[.int .i64 a2_0, .int .i64 a2_1]) (t := 33) ?hr ?_; (case hd => rfl); (case hg => rfl); (case hr => first | (go_simp; done) | (go_simp; rfl)); intro gb193 hg w9 hbox hb; have n0_ := Aside0.mk (blk_below (g := gb191) (o := .cells #[.int .i64 a0_0, .int .i64 a0_1] 33 (0, 0)) zk hb); have n1_ := Aside0.mk (blk_below (g := gb192) (o := .cells #[.int .i64 a1_0, .int .i64 a1_1] 33 (0, 0)) zk hb); have n2_ := Aside0.mk (below_step zb hb); have n3_ := Aside0.mk (hbox); have n4_ := Aside0.mk ((by rw [hg]; exact (below_size zb) : w.heap.size ≤ gb193)); have n5_ := Aside0.mk ((by rw [hg]; exact (below_size zb) : w.heap.size ≤ gb193)); have n6_ := Aside0.mk ((by rw [hg]; exact Nat.ne_of_lt (blk_lt (g := gb191) (o := .cells #[.int .i64 a0_0, .int .i64 a0_1] 33 (0, 0)) zk) : gb191 ≠ gb193)); have n7_ := Aside0.mk ((by rw [hg]; exact Nat.ne_of_gt (blk_lt (g := gb191) (o := .cells #[.int .i64 a0_0, .int .i64 a0_1] 33 (0, 0)) zk) : gb193 ≠ gb191)); have n8_ := Aside0.mk ((by rw [hg]; exact Nat.ne_of_lt (blk_lt (g := gb192) (o := .cells #[.int .i64 a1_0, .int .i64 a1_1] 33 (0, 0)) zk) : gb192 ≠ gb193)); have n9_ := Aside0.mk ((by rw [hg]; exact Nat.ne_of_gt (blk_lt (g := gb192) (o := .cells #[.int .i64 a1_0, .int .i64 a1_1] 33 (0, 0)) zk) : gb193 ≠ gb192)); clear BK191; clear BK192; clear HB; have BK191 := n0_; have BK192 := n1_; have HB := n2_; have BK193 := n3_; have GW193 := n4_; have GE193 := n5_; have NB191_193 := n6_; have NB193_191 := n7_; have NB192_193 := n8_; have NB193_192 := n9_; clear n0_ n1_ n2_ n3_ n4_ n5_ n6_ n7_ n8_ n9_; clear hb hbox hg))
 have n0_ := Aside0.mk (blk_drew BK191.out)
 have n1_ := Aside0.mk (blk_drew BK192.out)
 have n2_ := Aside0.mk (blk_drew BK193.out)
 have n3_ := Aside0.mk (below_drew1 HB.out)
 clear BK191
 clear BK192
 clear BK193
 clear HB
 have BK191 := n0_
 have BK192 := n1_
 have BK193 := n2_
 have HB := n3_
 clear n0_ n1_ n2_ n3_
 refine start_ (n := 8) (S := fun w' => w'.cell? ⟨gb192, 0, none⟩ = some (.int .i64 a1_0) ∧ w'.cell? ⟨gb192, 1, none⟩ = some (.int .i64 a1_1) ∧ w'.cell? ⟨gb191, 0, none⟩ = some (.int .i64 a0_0) ∧ w'.cell? ⟨gb191, 1, none⟩ = some (.int .i64 a0_1) ∧ w'.cell? ⟨gb193, 0, none⟩ = some (.int .i64 a2_0) ∧ w'.cell? ⟨gb193, 1, none⟩ = some (.int .i64 a2_1)) (ds := []) (zl 8 0) (by kernel_rfl) rfl rfl ⟨(blk_cell BK192.out 0).trans rfl, (blk_cell BK192.out 1).trans rfl, (blk_cell BK191.out 0).trans rfl, (blk_cell BK191.out 1).trans rfl, (blk_cell BK193.out 0).trans rfl, (blk_cell BK193.out 1).trans rfl⟩ (fun hHeld => ?_); refine with_tabW impl_turn.tab1 impl_turn.bits1 (fun HT_ HW_ => ?_)
 generalize w9.drew = w10 at BK191 BK192 BK193 HB hHeld ⊢
 refine take_ (i := 0) (N := some 7) (v := ?_) (a' := ?_) (zl 8 1) rfl rfl (take_ofW HT_.out HW_.out (by kernel_rfl)) (fun _ _ _ h => h) (Or.inl ⟨by rfl, ?_⟩) hHeld ?_ ?_
 rotate_left
 ·rintro w' ⟨s0, s1, s2, s3, s4, s5⟩
  go_simp
  with_reducible rfl
 rotate_left
 ·exact zs
 refine take_ (i := 1) (N := some 8) (v := ?_) (a' := ?_) (zl 8 3) rfl rfl (take_ofW HT_.out HW_.out (by kernel_rfl)) (fun _ _ _ h => h) (Or.inl ⟨by rfl, ?_⟩) hHeld ?_ ?_
 rotate_left
 ·rintro w' ⟨s0, s1, s2, s3, s4, s5⟩
  go_simp
  with_reducible rfl
 rotate_left
 ·exact zs
 refine take_ (i := 3) (N := some 10) (v := ?_) (a' := ?_) (zl 8 11) rfl rfl (take_ofW HT_.out HW_.out (by kernel_rfl)) (fun _ _ _ h => h) (Or.inl ⟨by rfl, ?_⟩) hHeld ?_ ?_
 rotate_left
 ·rintro w' ⟨s0, s1, s2, s3, s4, s5⟩
  go_simp
  with_reducible rfl
 rotate_left
 ·exact zs
 refine take_ (i := 4) (N := some 11) (v := ?_) (a' := ?_) (zl 8 27) rfl rfl (take_ofW HT_.out HW_.out (by kernel_rfl)) (fun _ _ _ h => h) (Or.inl ⟨by rfl, ?_⟩) hHeld ?_ ?_
 rotate_left
 ·rintro w' ⟨s0, s1, s2, s3, s4, s5⟩
  go_simp
  with_reducible rfl
 rotate_left
 ·exact zs
 refine one_ (i := 2) (N := some 9) (zl 8 31) rfl rfl (one_of HT_.out (by kernel_rfl)) (by decide) (fun K hK => ?_)
 refine goes_ Tryd.func36 (by kernel_rfl) rfl #[.agg #[.int .i64 a1_0, .int .i64 a1_1], .agg #[.int .i64 a0_0, .int .i64 a0_1]] (by rfl) rfl rfl zn ?_
 with_reducible refine (impl_Peg_less.calls a1_0 a1_1 a0_0 a0_1 t194 t195 _ A4.out).mono ?_
 rintro e w11 ⟨rfl, hb⟩
 refine ⟨_, rfl, ?_⟩
 have n0_ := Aside0.mk (blk_below (g := gb191) (o := .cells #[.int .i64 a0_0, .int .i64 a0_1] 33 (0, 0)) zk hb)
 have n1_ := Aside0.mk (blk_below (g := gb192) (o := .cells #[.int .i64 a1_0, .int .i64 a1_1] 33 (0, 0)) zk hb)
 have n2_ := Aside0.mk (blk_below (g := gb193) (o := .cells #[.int .i64 a2_0, .int .i64 a2_1] 33 (0, 0)) zk hb)
 have n3_ := Aside0.mk (below_step zb hb)
 clear BK191
 clear BK192
 clear BK193
 clear HB
 have BK191 := n0_
 have BK192 := n1_
 have BK193 := n2_
 have HB := n3_
 clear n0_ n1_ n2_ n3_
 (try clear hb)
 (try clear hb2)
 (try clear hk)
 (try clear hi)
 refine hK.out _ _ ⟨(blk_cell BK192.out 0).trans rfl, (blk_cell BK192.out 1).trans rfl, (blk_cell BK191.out 0).trans rfl, (blk_cell BK191.out 1).trans rfl, (blk_cell BK193.out 0).trans rfl, (blk_cell BK193.out 1).trans rfl⟩ (fun hHeld => ?_)
 clear hK K
 refine norm_ (a' := ?_) ?_ ?_
 rotate_left
 ·show Act.put _ (some 9) _ = _
  exact zs
 refine one_ (i := 5) (N := some 12) (zl 8 63) rfl rfl (one_of HT_.out (by kernel_rfl)) (by decide) (fun K hK => ?_)
 refine goes_ Tryd.func36 (by kernel_rfl) rfl #[.agg #[.int .i64 a2_0, .int .i64 a2_1], .agg #[.int .i64 a0_0, .int .i64 a0_1]] (by rfl) rfl rfl zn ?_
 with_reducible refine (impl_Peg_less.calls a2_0 a2_1 a0_0 a0_1 t196 t197 _ A5.out).mono ?_
 rintro e w12 ⟨rfl, hb⟩
 refine ⟨_, rfl, ?_⟩
 have n0_ := Aside0.mk (blk_below (g := gb191) (o := .cells #[.int .i64 a0_0, .int .i64 a0_1] 33 (0, 0)) zk hb)
 have n1_ := Aside0.mk (blk_below (g := gb192) (o := .cells #[.int .i64 a1_0, .int .i64 a1_1] 33 (0, 0)) zk hb)
 have n2_ := Aside0.mk (blk_below (g := gb193) (o := .cells #[.int .i64 a2_0, .int .i64 a2_1] 33 (0, 0)) zk hb)
 have n3_ := Aside0.mk (below_step zb hb)
 clear BK191
 clear BK192
 clear BK193
 clear HB
 have BK191 := n0_
 have BK192 := n1_
 have BK193 := n2_
 have HB := n3_
 clear n0_ n1_ n2_ n3_
 (try clear hb)
 (try clear hb2)
 (try clear hk)
 (try clear hi)
 refine hK.out _ _ ⟨(blk_cell BK192.out 0).trans rfl, (blk_cell BK192.out 1).trans rfl, (blk_cell BK191.out 0).trans rfl, (blk_cell BK191.out 1).trans rfl, (blk_cell BK193.out 0).trans rfl, (blk_cell BK193.out 1).trans rfl⟩ (fun hHeld => ?_)
 clear hK K
 refine norm_ (a' := ?_) ?_ ?_
 rotate_left
 ·show Act.put _ (some 12) _ = _
  exact zs
 refine one_ (i := 6) (N := some 13) (zl 8 127) rfl rfl (one_of HT_.out (by kernel_rfl)) (by decide) (fun K hK => ?_)
 refine goes_ Tryd.func35 (by kernel_rfl) rfl #[.agg #[.int .i64 t194, .int .i64 t195], .agg #[.int .i64 t196, .int .i64 t197]] (by rfl) rfl rfl zn ?_
 with_reducible refine (impl_cross.calls t194 t195 t196 t197 t198 _ A6.out).mono ?_
 rintro e w13 ⟨rfl, hb⟩
 refine ⟨_, rfl, ?_⟩
 have n0_ := Aside0.mk (blk_below (g := gb191) (o := .cells #[.int .i64 a0_0, .int .i64 a0_1] 33 (0, 0)) zk hb)
 have n1_ := Aside0.mk (blk_below (g := gb192) (o := .cells #[.int .i64 a1_0, .int .i64 a1_1] 33 (0, 0)) zk hb)
 have n2_ := Aside0.mk (blk_below (g := gb193) (o := .cells #[.int .i64 a2_0, .int .i64 a2_1] 33 (0, 0)) zk hb)
 have n3_ := Aside0.mk (below_step zb hb)
 clear BK191
 clear BK192
 clear BK193
 clear HB
 have BK191 := n0_
 have BK192 := n1_
 have BK193 := n2_
 have HB := n3_
 clear n0_ n1_ n2_ n3_
 (try clear hb)
 (try clear hb2)
 (try clear hk)
 (try clear hi)
 refine hK.out _ _ ⟨(blk_cell BK192.out 0).trans rfl, (blk_cell BK192.out 1).trans rfl, (blk_cell BK191.out 0).trans rfl, (blk_cell BK191.out 1).trans rfl, (blk_cell BK193.out 0).trans rfl, (blk_cell BK193.out 1).trans rfl⟩ (fun hHeld => ?_)
 clear hK K
 refine norm_ (a' := ?_) ?_ ?_
 rotate_left
 ·show Act.put _ (some 13) _ = _
  exact zs
 refine zp 7 6 8 255 HT_ ?_
 refine done_ (done_of HT_.out (by kernel_rfl)) ?_
 try go_wp2
 go_ret
 exact ⟨by first | rfl | (simp [errW_none, errW_some] <;> rfl) | (simp [*, errW_none, errW_some] <;> rfl), zb⟩
end Go.Proofs.YtphpdfcblchpnaaDoor.Q
namespace Go.Proofs.YtphpdfcblchpnaaDoor.Q
open Go.RowKit Go.Proofs.YtphpdfcblchpnaaDoorW.PrintWords Go.Proofs.YtphpdfcblchpnaaDoorW.PrintLast Go.Proofs.YtphpdfcblchpnaaDoorW.PrintMore
attribute [local go_sem] max2_int min2_int max_two min_two max_three min_three max_four min_four   -- for this text's walks alone
set_option linter.unusedVariables false
set_option linter.unusedSimpArgs false
def impl_at.f (l0 : List (S33)) (a1 : Int) : Option (Int × Int) := if (l0.length : Int) = 0 then (none) else (if 0 ≤ (Int.tmod (wrap64 ((Int.tmod a1 (l0.length : Int)) + (l0.length : Int))) (l0.length : Int)) then (if (Int.tmod (wrap64 ((Int.tmod a1 (l0.length : Int)) + (l0.length : Int))) (l0.length : Int)) < (l0.length : Int) then (some ((rd_T33 l0 (Int.tmod (wrap64 ((Int.tmod a1 (l0.length : Int)) + (l0.length : Int))) (l0.length : Int))).f0, (rd_T33 l0 (Int.tmod (wrap64 ((Int.tmod a1 (l0.length : Int)) + (l0.length : Int))) (l0.length : Int))).f1)) else (none)) else (none))
set_option maxHeartbeats 8000000 in
set_option maxRecDepth 100000 in
theorem impl_at.calls (A0 : Option Addr) (c0 : Nat) (l0 : List (S33)) (a1 : Int) (r1 : Int) (r2 : Int) (w : World) (hr0 : Kd.C k33 w A0 l0.length l0) (hc0 : l0.length ≤ c0) (h : impl_at.f l0 a1 = some (r1, r2)) :
  Calls Tryd.prog 24 #[.slice A0 l0.length c0, .int .i64 a1] w fun e w' => e = .returned (.agg #[.int .i64 r1, .int .i64 r2]) ∧ Below w.heap.size w w' := by
 have hu33 := Tryd.underlying33
 have HR0 := Aside0.mk hr0
 have HC0 := Aside0.mk hc0
 clear hr0 hc0
 have HB := Aside0.mk (Below.refl w.heap.size w)
 have H : (if (l0.length : Int) = 0 then (none) else (if 0 ≤ (Int.tmod (wrap64 ((Int.tmod a1 (l0.length : Int)) + (l0.length : Int))) (l0.length : Int)) then (if (Int.tmod (wrap64 ((Int.tmod a1 (l0.length : Int)) + (l0.length : Int))) (l0.length : Int)) < (l0.length : Int) then (some ((rd_T33 l0 (Int.tmod (wrap64 ((Int.tmod a1 (l0.length : Int)) + (l0.length : Int))) (l0.length : Int))).f0, (rd_T33 l0 (Int.tmod (wrap64 ((Int.tmod a1 (l0.length : Int)) + (l0.length : Int))) (l0.length : Int))).f1)) else (none)) else (none))) = some (r1, r2) := h
 clear h
 by_cases c3 : (l0.length : Int) = 0
 ·rw [if_pos c3] at H
  exact absurd H (by simp)
 ·rw [if_neg c3] at H
  have c3b0 : ((l0.length : Int) == 0) = false := beq_eq_false_iff_ne.mpr c3
  have c3b1 : ((l0.length : Int) != 0) = true := bne_iff_ne.mpr c3
  have c3b2 : ¬ (l0 = []) := fun h_ => c3 (by rw [h_]; rfl)
  obtain ⟨ji4, hji4⟩ : ∃ j_ : Int, (Int.tmod (wrap64 ((Int.tmod a1 (l0.length : Int)) + (l0.length : Int))) (l0.length : Int)) = j_ := ⟨_, rfl⟩
  replace H : (if 0 ≤ (ji4) then (if (ji4) < (l0.length : Int) then (some ((rd_T33 l0 (ji4)).f0, (rd_T33 l0 (ji4)).f1)) else (none)) else (none)) = some (r1, r2) := by first | (rw [hji4] at H; exact H) | (simp only [hji4] at H ⊢; exact H)
  by_cases c5 : 0 ≤ (ji4)
  ·rw [if_pos c5] at H
   have c5b0 : decide (0 ≤ (ji4)) = true := decide_eq_true c5
   clear c5
   by_cases c6 : (ji4) < (l0.length : Int)
   ·rw [if_pos c6] at H
    have c6b0 : decide ((ji4) < (l0.length : Int)) = true := decide_eq_true c6
    clear c6
    simp only [Option.some.injEq, Prod.mk.injEq] at H
    obtain ⟨rfl, rfl⟩ := H
    go_enter Tryd.func24, Tryd.ntmps24
    go_wp2_with (first | ((with_reducible refine gate_dst (N := 4) rfl ?_); refine box_event ?hg (N := 4) ?hd (cs := #[.int .i64 0, .int .i64 0]) (t := 33) ?hr ?_; (case hd => rfl); (case hg => rfl); (case hr => first | (go_simp; done) | (go_simp; rfl)); intro gb199 hg w7 hbox hb; have n0_ := Aside0.mk (below_step zb hb); have n1_ := Aside0.mk (hbox); have n2_ := Aside0.mk ((by rw [hg]; exact (below_size zb) : w.heap.size ≤ gb199)); have n3_ := Aside0.mk ((by rw [hg]; exact (below_size zb) : w.heap.size ≤ gb199)); clear HB; have HB := n0_; have BK199 := n1_; have GW199 := n2_; have GE199 := n3_; clear n0_ n1_ n2_ n3_; clear hb hbox hg; have p200 : 0 ≤ ((ji4) : Int) := of_decide_eq_true (by first | (with_reducible assumption) | assumption); have q200 : (ji4) < (l0.length : Int) := of_decide_eq_true (by first | (with_reducible assumption) | assumption); obtain ⟨ad200, e200, hx200_0, hx200_1⟩ := at_T33 HR0.out (ji4) p200 q200; cases e200; replace hx200_0 := zc HB hx200_0; replace hx200_1 := zc HB hx200_1; replace p200 := eq_true p200; replace q200 := eq_true q200; have hcz8_0 : w7.cell? ⟨gb199, 0, none⟩ = some (.int .i64 0) := (blk_cell BK199.out 0).trans rfl; have hcz8_1 : w7.cell? ⟨gb199, 1, none⟩ = some (.int .i64 0) := (blk_cell BK199.out 1).trans rfl; have hfz8_0 := blk_frozen BK199.out 0; have hfz8_1 := blk_frozen BK199.out 1))
    refine bodyPost_ret (results_cell_row rfl _ _ gb199 33 #[.int .i64 ((rd_T33 l0 (ji4)).f0), .int .i64 ((rd_T33 l0 (ji4)).f1)] (0, 0) _ rfl (by (with_reducible repeat (first | refine blk_drewN ?_ _ | refine blk_drew ?_ | refine blk_alloc ?_ _)); refine blk_put (cs := #[.int .i64 ((rd_T33 l0 (ji4)).f0), .int .i64 0]) ?_ 1 _ rfl; (with_reducible repeat (first | refine blk_drewN ?_ _ | refine blk_drew ?_ | refine blk_alloc ?_ _)); refine blk_put (cs := #[.int .i64 0, .int .i64 0]) ?_ 0 _ rfl; (with_reducible repeat (first | refine blk_drewN ?_ _ | refine blk_drew ?_ | refine blk_alloc ?_ _)); exact BK199.out) Tryd.underlying33 rfl (by kernel_rfl)) rfl ?_
    exact ⟨by first | rfl | (simp [errW_none, errW_some] <;> rfl) | (simp only [← hji4]; first | rfl | (simp [errW_none, errW_some] <;> rfl)) | (simp [*, errW_none, errW_some] <;> rfl), zb⟩
   ·rw [if_neg c6] at H
    exact absurd H (by simp)
  ·rw [if_neg c5] at H
   exact absurd H (by simp)
def impl_sign.f (a0 : Int) : Option (Int) := some (mn 1 (mx (-1) a0))
set_option maxHeartbeats 8000000 in
set_option maxRecDepth 100000 in
theorem impl_sign.calls (a0 : Int) (r : Int) (w : World) (h : impl_sign.f a0 = some r) :
  Calls Tryd.prog 37 #[.int .i64 a0] w fun e w' => e = .returned (.int .i64 r) ∧ Below w.heap.size w w' := by
 have HB := Aside0.mk (Below.refl w.heap.size w)
 have H : (some (mn 1 (mx (-1) a0))) = some r := h
 clear h
 obtain ⟨ji2, hji2⟩ : ∃ j_ : Int, (mx (-1) a0) = j_ := ⟨_, rfl⟩
 replace H : (some (mn 1 (ji2))) = some r := by first | (rw [hji2] at H; exact H) | (simp only [hji2] at H ⊢; exact H)
 have hji2_ : (if (-1) < a0 then a0 else (-1)) = ji2 := hji2
 obtain ⟨ji3, hji3⟩ : ∃ j_ : Int, (mn 1 (ji2)) = j_ := ⟨_, rfl⟩
 replace H : (some ji3) = some r := by first | (rw [hji3] at H; exact H) | (simp only [hji3] at H ⊢; exact H)
 have hji3_ : (if (ji2) < 1 then (ji2) else 1) = ji3 := hji3
 obtain rfl := Option.some.inj H
 go_enter Tryd.func37, Tryd.ntmps37
 go_wp2
 go_ret
 exact ⟨by first | rfl | (simp [errW_none, errW_some] <;> rfl) | (simp only [← hji2, ← hji3]; first | rfl | (simp [errW_none, errW_some] <;> rfl)) | (simp [*, errW_none, errW_some] <;> rfl), zb⟩
def impl_isOn.f (a0_0 : Int) (a0_1 : Int) (a1_0 : Int) (a1_1 : Int) (a2_0 : Int) (a2_1 : Int) : Option (Bool) := (impl_turn.f a0_0 a0_1 a1_0 a1_1 a2_0 a2_1).bind fun t204 => (if t204 = 0 then ((impl_within.f a2_0 (mn a0_0 a1_0) (mx a0_0 a1_0)).bind fun t205 => (if t205 = true then ((impl_within.f a2_1 (mn a0_1 a1_1) (mx a0_1 a1_1)).bind fun t206 => (some t206)) else (some false))) else (some false))
set_option maxHeartbeats 8000000 in
set_option maxRecDepth 100000 in
theorem impl_isOn.calls (a0_0 : Int) (a0_1 : Int) (a1_0 : Int) (a1_1 : Int) (a2_0 : Int) (a2_1 : Int) (r : Bool) (w : World) (h : impl_isOn.f a0_0 a0_1 a1_0 a1_1 a2_0 a2_1 = some r) :
  Calls Tryd.prog 38 #[.agg #[.int .i64 a0_0, .int .i64 a0_1], .agg #[.int .i64 a1_0, .int .i64 a1_1], .agg #[.int .i64 a2_0, .int .i64 a2_1]] w fun e w' => e = .returned (.bool r) ∧ Below w.heap.size w w' := by
 have hu33 := Tryd.underlying33
 have HB := Aside0.mk (Below.refl w.heap.size w)
 have H : ((impl_turn.f a0_0 a0_1 a1_0 a1_1 a2_0 a2_1).bind fun t204 => (if t204 = 0 then ((impl_within.f a2_0 (mn a0_0 a1_0) (mx a0_0 a1_0)).bind fun t205 => (if t205 = true then ((impl_within.f a2_1 (mn a0_1 a1_1) (mx a0_1 a1_1)).bind fun t206 => (some t206)) else (some false))) else (some false))) = some r := h
 clear h
 replace H := Option.bind_eq_some_iff.mp H
 obtain ⟨t204, A40, H⟩ := H
 replace H : (if t204 = 0 then ((impl_within.f a2_0 (mn a0_0 a1_0) (mx a0_0 a1_0)).bind fun t205 => (if t205 = true then ((impl_within.f a2_1 (mn a0_1 a1_1) (mx a0_1 a1_1)).bind fun t206 => (some t206)) else (some false))) else (some false)) = some r := H
 have A4 := Aside0.mk A40
 clear A40
 by_cases c5 : t204 = 0
 ·rw [if_pos c5] at H
  have c5b0 : (t204 == 0) = true := beq_iff_eq.mpr c5
  have c5b1 : (t204 != 0) = false := bne_eq_false_iff_eq.mpr c5
  clear c5
  obtain ⟨ji6, hji6⟩ : ∃ j_ : Int, (mn a0_0 a1_0) = j_ := ⟨_, rfl⟩
  replace H : ((impl_within.f a2_0 (ji6) (mx a0_0 a1_0)).bind fun t205 => (if t205 = true then ((impl_within.f a2_1 (mn a0_1 a1_1) (mx a0_1 a1_1)).bind fun t206 => (some t206)) else (some false))) = some r := by first | (rw [hji6] at H; exact H) | (simp only [hji6] at H ⊢; exact H)
  (try rw [hji6] at A4)
  have hji6_ : (if a1_0 < a0_0 then a1_0 else a0_0) = ji6 := hji6
  obtain ⟨ji7, hji7⟩ : ∃ j_ : Int, (mx a0_0 a1_0) = j_ := ⟨_, rfl⟩
  replace H : ((impl_within.f a2_0 (ji6) (ji7)).bind fun t205 => (if t205 = true then ((impl_within.f a2_1 (mn a0_1 a1_1) (mx a0_1 a1_1)).bind fun t206 => (some t206)) else (some false))) = some r := by first | (rw [hji7] at H; exact H) | (simp only [hji7] at H ⊢; exact H)
  (try rw [hji7] at A4)
  have hji7_ : (if a0_0 < a1_0 then a1_0 else a0_0) = ji7 := hji7
  replace H := Option.bind_eq_some_iff.mp H
  obtain ⟨t205, A80, H⟩ := H
  replace H : (if t205 = true then ((impl_within.f a2_1 (mn a0_1 a1_1) (mx a0_1 a1_1)).bind fun t206 => (some t206)) else (some false)) = some r := H
  have A8 := Aside0.mk A80
  clear A80
  by_cases c9 : t205 = true
  ·subst c9
   have H1 : ((impl_within.f a2_1 (mn a0_1 a1_1) (mx a0_1 a1_1)).bind fun t206 => (some t206)) = some r := by rw [if_pos rfl] at H; exact H
   clear H
   have H := H1
   clear H1
   obtain ⟨ji10, hji10⟩ : ∃ j_ : Int, (mn a0_1 a1_1) = j_ := ⟨_, rfl⟩
   replace H : ((impl_within.f a2_1 (ji10) (mx a0_1 a1_1)).bind fun t206 => (some t206)) = some r := by first | (rw [hji10] at H; exact H) | (simp only [hji10] at H ⊢; exact H)
   (try rw [hji10] at A4)
   (try rw [hji10] at A8)
   have hji10_ : (if a1_1 < a0_1 then a1_1 else a0_1) = ji10 := hji10
   obtain ⟨ji11, hji11⟩ : ∃ j_ : Int, (mx a0_1 a1_1) = j_ := ⟨_, rfl⟩
   replace H : ((impl_within.f a2_1 (ji10) (ji11)).bind fun t206 => (some t206)) = some r := by first | (rw [hji11] at H; exact H) | (simp only [hji11] at H ⊢; exact H)
   (try rw [hji11] at A4)
   (try rw [hji11] at A8)
   have hji11_ : (if a0_1 < a1_1 then a1_1 else a0_1) = ji11 := hji11
   replace H := Option.bind_eq_some_iff.mp H
   obtain ⟨t206, A120, H⟩ := H
   replace H : (some t206) = some r := H
   have A12 := Aside0.mk A120
   clear A120
   obtain rfl := Option.some.inj H
   go_enter Tryd.func38, Tryd.ntmps38
   go_wp2_with (first | ((with_reducible refine gate_dst (N := 3) rfl ?_); (try (refine gate_guard (by rfl) ?_; dsimp only)); refine box_event ?hg (N := 3) ?hd (cs := #[.int .i64 a0_0, .int .i64 a0_1]) (t := 33) ?hr ?_; (case hd => rfl); (case hg => rfl); (case hr => first | (go_simp; done) | (go_simp; rfl)); intro gb201 hg w13 hbox hb; have n0_ := Aside0.mk (below_step zb hb); have n1_ := Aside0.mk (hbox); have n2_ := Aside0.mk ((by rw [hg]; exact (below_size zb) : w.heap.size ≤ gb201)); have n3_ := Aside0.mk ((by rw [hg]; exact (below_size zb) : w.heap.size ≤ gb201)); clear HB; have HB := n0_; have BK201 := n1_; have GW201 := n2_; have GE201 := n3_; clear n0_ n1_ n2_ n3_; clear hb hbox hg) | ((with_reducible refine gate_dst (N := 4) rfl ?_); (try (refine gate_guard (by rfl) ?_; dsimp only)); refine box_event ?hg (N := 4) ?hd (cs := #[.int .i64 a1_0, .int .i64 a1_1]) (t := 33) ?hr ?_; (case hd => rfl); (case hg => rfl); (case hr => first | (go_simp; done) | (go_simp; rfl)); intro gb202 hg w14 hbox hb; have n0_ := Aside0.mk (blk_below (g := gb201) (o := .cells #[.int .i64 a0_0, .int .i64 a0_1] 33 (0, 0)) zk hb); have n1_ := Aside0.mk (below_step zb hb); have n2_ := Aside0.mk (hbox); have n3_ := Aside0.mk ((by rw [hg]; exact (below_size zb) : w.heap.size ≤ gb202)); have n4_ := Aside0.mk ((by rw [hg]; exact (below_size zb) : w.heap.size ≤ gb202)); have n5_ := Aside0.mk ((by rw [hg]; exact Nat.ne_of_lt (blk_lt (g := gb201) (o := .cells #[.int .i64 a0_0, .int .i64 a0_1] 33 (0, 0)) zk) : gb201 ≠ gb202)); have n6_ := Aside0.mk ((by rw [hg]; exact Nat.ne_of_gt (blk_lt (g := gb201) (o := .cells #[.int .i64 a0_0, .int .i64 a0_1] 33 (0, 0)) zk) : gb202 ≠ gb201)); clear BK201; clear HB; have BK201 := n0_; have HB := n1_; have BK202 := n2_; have GW202 := n3_; have GE202 := n4_; have NB201_202 := n5_; have NB202_201 := n6_; clear n0_ n1_ n2_ n3_ n4_ n5_ n6_; clear hb hbox hg) | ((with_reducible refine gate_dst (N := 5) rfl ?_); (try (refine gate_guard (by rfl) ?_; dsimp only)); refine box_event ?hg (N := 5) ?hd (cs := #[.int .i64 a2_0, .int .i64 a2_1]) (t := 33) ?hr ?_; (case hd => rfl); (case hg => rfl); (case hr => first | (go_simp; done) | (go_simp; rfl)); intro gb203 hg w15 hbox hb; have n0_ := Aside0.mk (blk_below (g := gb201) (o := .cells #[.int .i64 a0_0, .int .i64 a0_1] 33 (0, 0)) zk hb); have n1_ := Aside0.mk (blk_below (g := gb202) (o := .cells #[.int .i64 a1_0, .int .i64 a1_1] 33 (0, 0)) zk hb); have n2_ := Aside0.mk (below_step zb hb); have n3_ := Aside0.mk (hbox); have n4_ := Aside0.mk ((by rw [hg]; exact (below_size zb) : w.heap.size ≤ gb203)); have n5_ := Aside0.mk ((by rw [hg]; exact (below_size zb) : w.heap.size ≤ gb203)); have n6_ := Aside0.mk ((by rw [hg]; exact Nat.ne_of_lt (blk_lt (g := gb201) (o := .cells #[.int .i64 a0_0, .int .i64 a0_1] 33 (0, 0)) zk) : gb201 ≠ gb203)); have n7_ := Aside0.mk ((by rw [hg]; exact Nat.ne_of_gt (blk_lt (g := gb201) (o := .cells #[.int .i64 a0_0, .int .i64 a0_1] 33 (0, 0)) zk) : gb203 ≠ gb201)); have n8_ := Aside0.mk ((by rw [hg]; exact Nat.ne_of_lt (blk_lt (g := gb202) (o := .cells #[.int .i64 a1_0, .int .i64 a1_1] 33 (0, 0)) zk) : gb202 ≠ gb203)); have n9_ := Aside0.mk ((by rw [hg]; exact Nat.ne_of_gt (blk_lt (g := gb202) (o := .cells #[.int .i64 a1_0, .int .i64 a1_1] 33 (0, 0)) zk) : gb203 ≠ gb202)); clear BK201; clear BK202; clear HB; have BK201 := n0_; have BK202 := n1_; have HB := n2_; have BK203 := n3_; have GW203 := n4_; have GE203 := n5_; have NB201_203 := n6_; have NB203_201 := n7_; have NB202_203 := n8_; have NB203_202 := n9_; clear n0_ n1_ n2_ n3_ n4_ n5_ n6_ n7_ n8_ n9_; clear hb hbox hg; have hnb16 := NB201_202.out; have hnc16 := NB202_201.out; have hnb17 := NB201_203.out; have hnc17 := NB203_201.out; have hcz18_0 : w15.cell? ⟨gb201, 0, none⟩ = some (.int .i64 a0_0) := (blk_cell BK201.out 0).trans rfl; have hcz18_1 : w15.cell? ⟨gb201, 1, none⟩ = some (.int .i64 a0_1) := (blk_cell BK201.out 1).trans rfl; have hfz18_0 := blk_frozen BK201.out 0; have hfz18_1 := blk_frozen BK201.out 1; have hnb19 := NB202_203.out; have hnc19 := NB203_202.out; have hcz20_0 : w15.cell? ⟨gb202, 0, none⟩ = some (.int .i64 a1_0) := (blk_cell BK202.out 0).trans rfl; have hcz20_1 : w15.cell? ⟨gb202, 1, none⟩ = some (.int .i64 a1_1) := (blk_cell BK202.out 1).trans rfl; have hfz20_0 := blk_frozen BK202.out 0; have hfz20_1 := blk_frozen BK202.out 1; have hcz21_0 : w15.cell? ⟨gb203, 0, none⟩ = some (.int .i64 a2_0) := (blk_cell BK203.out 0).trans rfl; have hcz21_1 : w15.cell? ⟨gb203, 1, none⟩ = some (.int .i64 a2_1) := (blk_cell BK203.out 1).trans rfl; have hfz21_0 := blk_frozen BK203.out 0; have hfz21_1 := blk_frozen BK203.out 1) | ((with_reducible refine gate_callee (f := 23) rfl ?_); refine goesL_ (some 10) rfl rfl Tryd.func23 (by kernel_rfl) rfl #[.agg #[.int .i64 a0_0, .int .i64 a0_1], .agg #[.int .i64 a1_0, .int .i64 a1_1], .agg #[.int .i64 a2_0, .int .i64 a2_1]] rfl zn ?_; (with_reducible refine (impl_turn.calls a0_0 a0_1 a1_0 a1_1 a2_0 a2_1 t204 _ A4.out).mono ?_); rintro e w22 ⟨rfl, hb⟩; refine ⟨_, rfl, ?_⟩; have n0_ := Aside0.mk (blk_below (g := gb201) (o := .cells #[.int .i64 a0_0, .int .i64 a0_1] 33 (0, 0)) zk hb); have n1_ := Aside0.mk (blk_below (g := gb202) (o := .cells #[.int .i64 a1_0, .int .i64 a1_1] 33 (0, 0)) zk hb); have n2_ := Aside0.mk (blk_below (g := gb203) (o := .cells #[.int .i64 a2_0, .int .i64 a2_1] 33 (0, 0)) zk hb); have n3_ := Aside0.mk (below_step zb hb); clear BK201; clear BK202; clear BK203; clear HB; have BK201 := n0_; have BK202 := n1_; have BK203 := n2_; have HB := n3_; clear n0_ n1_ n2_ n3_; (try clear hb); (try clear hb2); (try clear hk); (try clear hi); have hcz23_0 : w22.cell? ⟨gb203, 0, none⟩ = some (.int .i64 a2_0) := (blk_cell BK203.out 0).trans rfl; have hcz23_1 : w22.cell? ⟨gb203, 1, none⟩ = some (.int .i64 a2_1) := (blk_cell BK203.out 1).trans rfl; have hfz23_0 := blk_frozen BK203.out 0; have hfz23_1 := blk_frozen BK203.out 1; have hcz24_0 : w22.cell? ⟨gb201, 0, none⟩ = some (.int .i64 a0_0) := (blk_cell BK201.out 0).trans rfl; have hcz24_1 : w22.cell? ⟨gb201, 1, none⟩ = some (.int .i64 a0_1) := (blk_cell BK201.out 1).trans rfl; have hfz24_0 := blk_frozen BK201.out 0; have hfz24_1 := blk_frozen BK201.out 1; have hcz25_0 : w22.cell? ⟨gb202, 0, none⟩ = some (.int .i64 a1_0) := (blk_cell BK202.out 0).trans rfl; have hcz25_1 : w22.cell? ⟨gb202, 1, none⟩ = some (.int .i64 a1_1) := (blk_cell BK202.out 1).trans rfl; have hfz25_0 := blk_frozen BK202.out 0; have hfz25_1 := blk_frozen BK202.out 1) | (go_at_call 20; (with_reducible refine (impl_within.calls a2_0 ji6 ji7 true _ A8.out).mono ?_); rintro e w' ⟨rfl, ⟨nd, rfl⟩⟩) | (go_at_call 20; (with_reducible refine (impl_within.calls a2_1 ji10 ji11 t206 _ A12.out).mono ?_); rintro e w' ⟨rfl, ⟨nd, rfl⟩⟩))
   go_ret
   exact ⟨by first | rfl | (simp [errW_none, errW_some] <;> rfl) | (simp only [← hji6, ← hji7, ← hji10, ← hji11]; first | rfl | (simp [errW_none, errW_some] <;> rfl)) | (simp [*, errW_none, errW_some] <;> rfl), zb⟩
  ·replace c9 := Bool.eq_false_iff.mpr c9
   subst c9
   have H1 : (some false) = some r := by rw [if_neg (show ¬ (false = true) by decide)] at H; exact H
   clear H
   have H := H1
   clear H1
   obtain rfl := Option.some.inj H
   go_enter Tryd.func38, Tryd.ntmps38
   go_wp2_with (first | ((with_reducible refine gate_dst (N := 3) rfl ?_); (try (refine gate_guard (by rfl) ?_; dsimp only)); refine box_event ?hg (N := 3) ?hd (cs := #[.int .i64 a0_0, .int .i64 a0_1]) (t := 33) ?hr ?_; (case hd => rfl); (case hg => rfl); (case hr => first | (go_simp; done) | (go_simp; rfl)); intro gb201 hg w26 hbox hb; have n0_ := Aside0.mk (below_step zb hb); have n1_ := Aside0.mk (hbox); have n2_ := Aside0.mk ((by rw [hg]; exact (below_size zb) : w.heap.size ≤ gb201)); have n3_ := Aside0.mk ((by rw [hg]; exact (below_size zb) : w.heap.size ≤ gb201)); clear HB; have HB := n0_; have BK201 := n1_; have GW201 := n2_; have GE201 := n3_; clear n0_ n1_ n2_ n3_; clear hb hbox hg) | ((with_reducible refine gate_dst (N := 4) rfl ?_); (try (refine gate_guard (by rfl) ?_; dsimp only)); refine box_event ?hg (N := 4) ?hd (cs := #[.int .i64 a1_0, .int .i64 a1_1]) (t := 33) ?hr ?_; (case hd => rfl); (case hg => rfl); (case hr => first | (go_simp; done) | (go_simp; rfl)); intro gb202 hg w27 hbox hb; have n0_ := Aside0.mk (blk_below (g := gb201) (o := .cells #[.int .i64 a0_0, .int .i64 a0_1] 33 (0, 0)) zk hb); have n1_ := Aside0.mk (below_step zb hb); have n2_ := Aside0.mk (hbox); have n3_ := Aside0.mk ((by rw [hg]; exact (below_size zb) : w.heap.size ≤ gb202)); have n4_ := Aside0.mk ((by rw [hg]; exact (below_size zb) : w.heap.size ≤ gb202)); have n5_ := Aside0.mk ((by rw [hg]; exact Nat.ne_of_lt (blk_lt (g := gb201) (o := .cells #[.int .i64 a0_0, .int .i64 a0_1] 33 (0, 0)) zk) : gb201 ≠ gb202)); have n6_ := Aside0.mk ((by rw [hg]; exact Nat.ne_of_gt (blk_lt (g := gb201) (o := .cells #[.int .i64 a0_0, .int .i64 a0_1] 33 (0, 0)) zk) : gb202 ≠ gb201)); clear BK201; clear HB; have BK201 := n0_; have HB := n1_; have BK202 := n2_; have GW202 := n3_; have GE202 := n4_; have NB201_202 := n5_; have NB202_201 := n6_; clear n0_ n1_ n2_ n3_ n4_ n5_ n6_; clear hb hbox hg) | ((with_reducible refine gate_dst (N := 5) rfl ?_); (try (refine gate_guard (by rfl) ?_; dsimp only)); refine box_event ?hg (N := 5) ?hd (cs := #[.int .i64 a2_0, .int .i64 a2_1]) (t := 33) ?hr ?_; (case hd => rfl); (case hg => rfl); (case hr => first | (go_simp; done) | (go_simp; rfl)); intro gb203 hg w28 hbox hb; have n0_ := Aside0.mk (blk_below (g := gb201) (o := .cells #[.int .i64 a0_0, .int .i64 a0_1] 33 (0, 0)) zk hb); have n1_ := Aside0.mk (blk_below (g := gb202) (o := .cells #[.int .i64 a1_0, .int .i64 a1_1] 33 (0, 0)) zk hb); have n2_ := Aside0.mk (below_step zb hb); have n3_ := Aside0.mk (hbox); have n4_ := Aside0.mk ((by rw [hg]; exact (below_size zb) : w.heap.size ≤ gb203)); have n5_ := Aside0.mk ((by rw [hg]; exact (below_size zb) : w.heap.size ≤ gb203)); have n6_ := Aside0.mk ((by rw [hg]; exact Nat.ne_of_lt (blk_lt (g := gb201) (o := .cells #[.int .i64 a0_0, .int .i64 a0_1] 33 (0, 0)) zk) : gb201 ≠ gb203)); have n7_ := Aside0.mk ((by rw [hg]; exact Nat.ne_of_gt (blk_lt (g := gb201) (o := .cells #[.int .i64 a0_0, .int .i64 a0_1] 33 (0, 0)) zk) : gb203 ≠ gb201)); have n8_ := Aside0.mk ((by rw [hg]; exact Nat.ne_of_lt (blk_lt (g := gb202) (o := .cells #[.int .i64 a1_0, .int .i64 a1_1] 33 (0, 0)) zk) : gb202 ≠ gb203)); have n9_ := Aside0.mk ((by rw [hg]; exact Nat.ne_of_gt (blk_lt (g := gb202) (o := .cells #[.int .i64 a1_0, .int .i64 a1_1] 33 (0, 0)) zk) : gb203 ≠ gb202)); clear BK201; clear BK202; clear HB; have BK201 := n0_; have BK202 := n1_; have HB := n2_; have BK203 := n3_; have GW203 := n4_; have GE203 := n5_; have NB201_203 := n6_; have NB203_201 := n7_; have NB202_203 := n8_; have NB203_202 := n9_; clear n0_ n1_ n2_ n3_ n4_ n5_ n6_ n7_ n8_ n9_; clear hb hbox hg; have hnb29 := NB201_202.out; have hnc29 := NB202_201.out; have hnb30 := NB201_203.out; have hnc30 := NB203_201.out; have hcz31_0 : w28.cell? ⟨gb201, 0, none⟩ = some (.int .i64 a0_0) := (blk_cell BK201.out 0).trans rfl; have hcz31_1 : w28.cell? ⟨gb201, 1, none⟩ = some (.int .i64 a0_1) := (blk_cell BK201.out 1).trans rfl; have hfz31_0 := blk_frozen BK201.out 0; have hfz31_1 := blk_frozen BK201.out 1; have hnb32 := NB202_203.out; have hnc32 := NB203_202.out; have hcz33_0 : w28.cell? ⟨gb202, 0, none⟩ = some (.int .i64 a1_0) := (blk_cell BK202.out 0).trans rfl; have hcz33_1 : w28.cell? ⟨gb202, 1, none⟩ = some (.int .i64 a1_1) := (blk_cell BK202.out 1).trans rfl; have hfz33_0 := blk_frozen BK202.out 0; have hfz33_1 := blk_frozen BK202.out 1; have hcz34_0 : w28.cell? ⟨gb203, 0, none⟩ = some (.int .i64 a2_0) := (blk_cell BK203.out 0).trans rfl; have hcz34_1 : w28.cell? ⟨gb203, 1, none⟩ = some (.int .i64 a2_1) := (blk_cell BK203.out 1).trans rfl; have hfz34_0 := blk_frozen BK203.out 0; have hfz34_1 := blk_frozen BK203.out 1) | ((with_reducible refine gate_callee (f := 23) rfl ?_); refine goesL_ (some 10) rfl rfl Tryd.func23 (by kernel_rfl) rfl #[.agg #[.int .i64 a0_0, .int .i64 a0_1], .agg #[.int .i64 a1_0, .int .i64 a1_1], .agg #[.int .i64 a2_0, .int .i64 a2_1]] rfl zn ?_; (with_reducible refine (impl_turn.calls a0_0 a0_1 a1_0 a1_1 a2_0 a2_1 t204 _ A4.out).mono ?_); rintro e w35 ⟨rfl, hb⟩; refine ⟨_, rfl, ?_⟩; have n0_ := Aside0.mk (blk_below (g := gb201) (o := .cells #[.int .i64 a0_0, .int .i64 a0_1] 33 (0, 0)) zk hb); have n1_ := Aside0.mk (blk_below (g := gb202) (o := .cells #[.int .i64 a1_0, .int .i64 a1_1] 33 (0, 0)) zk hb); have n2_ := Aside0.mk (blk_below (g := gb203) (o := .cells #[.int .i64 a2_0, .int .i64 a2_1] 33 (0, 0)) zk hb); have n3_ := Aside0.mk (below_step zb hb); clear BK201; clear BK202; clear BK203; clear HB; have BK201 := n0_; have BK202 := n1_; have BK203 := n2_; have HB := n3_; clear n0_ n1_ n2_ n3_; (try clear hb); (try clear hb2); (try clear hk); (try clear hi); have hcz36_0 : w35.cell? ⟨gb203, 0, none⟩ = some (.int .i64 a2_0) := (blk_cell BK203.out 0).trans rfl; have hcz36_1 : w35.cell? ⟨gb203, 1, none⟩ = some (.int .i64 a2_1) := (blk_cell BK203.out 1).trans rfl; have hfz36_0 := blk_frozen BK203.out 0; have hfz36_1 := blk_frozen BK203.out 1; have hcz37_0 : w35.cell? ⟨gb201, 0, none⟩ = some (.int .i64 a0_0) := (blk_cell BK201.out 0).trans rfl; have hcz37_1 : w35.cell? ⟨gb201, 1, none⟩ = some (.int .i64 a0_1) := (blk_cell BK201.out 1).trans rfl; have hfz37_0 := blk_frozen BK201.out 0; have hfz37_1 := blk_frozen BK201.out 1; have hcz38_0 : w35.cell? ⟨gb202, 0, none⟩ = some (.int .i64 a1_0) := (blk_cell BK202.out 0).trans rfl; have hcz38_1 : w35.cell? ⟨gb202, 1, none⟩ = some (.int .i64 a1_1) := (blk_cell BK202.out 1).trans rfl; have hfz38_0 := blk_frozen BK202.out 0; have hfz38_1 := blk_frozen BK202.out 1) | (go_at_call 20; (with_reducible refine (impl_within.calls a2_0 ji6 ji7 false _ A8.out).mono ?_); rintro e w' ⟨rfl, ⟨nd, rfl⟩⟩))
   go_ret
   exact ⟨by first | rfl | (simp [errW_none, errW_some] <;> rfl) | (simp only [← hji6, ← hji7]; first | rfl | (simp [errW_none, errW_some] <;> rfl)) | (simp [*, errW_none, errW_some] <;> rfl), zb⟩
 ·rw [if_neg c5] at H
  have c5b0 : (t204 == 0) = false := beq_eq_false_iff_ne.mpr c5
  have c5b1 : (t204 != 0) = true := bne_iff_ne.mpr c5
  obtain rfl := Option.some.inj H
  go_enter Tryd.func38, Tryd.ntmps38
  go_wp2_with (first | ((with_reducible refine gate_dst (N := 3) rfl ?_); (try (refine gate_guard (by rfl) ?_; dsimp only)); refine box_event ?hg (N := 3) ?hd (cs := #[.int .i64 a0_0, .int .i64 a0_1]) (t := 33) ?hr ?_; (case hd => rfl); (case hg => rfl); (case hr => first | (go_simp; done) | (go_simp; rfl)); intro gb201 hg w39 hbox hb; have n0_ := Aside0.mk (below_step zb hb); have n1_ := Aside0.mk (hbox); have n2_ := Aside0.mk ((by rw [hg]; exact (below_size zb) : w.heap.size ≤ gb201)); have n3_ := Aside0.mk ((by rw [hg]; exact (below_size zb) : w.heap.size ≤ gb201)); clear HB; have HB := n0_; have BK201 := n1_; have GW201 := n2_; have GE201 := n3_; clear n0_ n1_ n2_ n3_; clear hb hbox hg) | ((with_reducible refine gate_dst (N := 4) rfl ?_); (try (refine gate_guard (by rfl) ?_; dsimp only)); refine box_event ?hg (N := 4) ?hd (cs := #[.int .i64 a1_0, .int .i64 a1_1]) (t := 33) ?hr ?_; (case hd => rfl); (case hg => rfl); (case hr => first | (go_simp; done) | (go_simp; rfl)); intro gb202 hg w40 hbox hb; have n0_ := Aside0.mk (blk_below (g := gb201) (o := .cells #[.int .i64 a0_0, .int .i64 a0_1] 33 (0, 0)) zk hb); have n1_ := Aside0.mk (below_step zb hb); have n2_ := Aside0.mk (hbox); have n3_ := Aside0.mk ((by rw [hg]; exact (below_size zb) : w.heap.size ≤ gb202)); have n4_ := Aside0.mk ((by rw [hg]; exact (below_size zb) : w.heap.size ≤ gb202)); have n5_ := Aside0.mk ((by rw [hg]; exact Nat.ne_of_lt (blk_lt (g := gb201) (o := .cells #[.int .i64 a0_0, .int .i64 a0_1] 33 (0, 0)) zk) : gb201 ≠ gb202)); have n6_ := Aside0.mk ((by rw [hg]; exact Nat.ne_of_gt (blk_lt (g := gb201) (o := .cells #[.int .i64 a0_0, .int .i64 a0_1] 33 (0, 0)) zk) : gb202 ≠ gb201)); clear BK201; clear HB; have BK201 := n0_; have HB := n1_; have BK202 := n2_; have GW202 := n3_; have GE202 := n4_; have NB201_202 := n5_; have NB202_201 := n6_; clear n0_ n1_ n2_ n3_ n4_ n5_ n6_; clear hb hbox hg) | ((with_reducible refine gate_dst (N := 5) rfl ?_); (try (refine gate_guard (by rfl) ?_; dsimp only)); refine box_event ?hg (N := 5) ?hd (cs := #[.int .i64 a2_0, .int .i64 a2_1]) (t := 33) ?hr ?_; (case hd => rfl); (case hg => rfl); (case hr => first | (go_simp; done) | (go_simp; rfl)); intro gb203 hg w41 hbox hb; have n0_ := Aside0.mk (blk_below (g := gb201) (o := .cells #[.int .i64 a0_0, .int .i64 a0_1] 33 (0, 0)) zk hb); have n1_ := Aside0.mk (blk_below (g := gb202) (o := .cells #[.int .i64 a1_0, .int .i64 a1_1] 33 (0, 0)) zk hb); have n2_ := Aside0.mk (below_step zb hb); have n3_ := Aside0.mk (hbox); have n4_ := Aside0.mk ((by rw [hg]; exact (below_size zb) : w.heap.size ≤ gb203)); have n5_ := Aside0.mk ((by rw [hg]; exact (below_size zb) : w.heap.size ≤ gb203)); have n6_ := Aside0.mk ((by rw [hg]; exact Nat.ne_of_lt (blk_lt (g := gb201) (o := .cells #[.int .i64 a0_0, .int .i64 a0_1] 33 (0, 0)) zk) : gb201 ≠ gb203)); have n7_ := Aside0.mk ((by rw [hg]; exact Nat.ne_of_gt (blk_lt (g := gb201) (o := .cells #[.int .i64 a0_0, .int .i64 a0_1] 33 (0, 0)) zk) : gb203 ≠ gb201)); have n8_ := Aside0.mk ((by rw [hg]; exact Nat.ne_of_lt (blk_lt (g := gb202) (o := .cells #[.int .i64 a1_0, .int .i64 a1_1] 33 (0, 0)) zk) : gb202 ≠ gb203)); have n9_ := Aside0.mk ((by rw [hg]; exact Nat.ne_of_gt (blk_lt (g := gb202) (o := .cells #[.int .i64 a1_0, .int .i64 a1_1] 33 (0, 0)) zk) : gb203 ≠ gb202)); clear BK201; clear BK202; clear HB; have BK201 := n0_; have BK202 := n1_; have HB := n2_; have BK203 := n3_; have GW203 := n4_; have GE203 := n5_; have NB201_203 := n6_; have NB203_201 := n7_; have NB202_203 := n8_; have NB203_202 := n9_; clear n0_ n1_ n2_ n3_ n4_ n5_ n6_ n7_ n8_ n9_; clear hb hbox hg; have hnb42 := NB201_202.out; have hnc42 := NB202_201.out; have hnb43 := NB201_203.out; have hnc43 := NB203_201.out; have hcz44_0 : w41.cell? ⟨gb201, 0, none⟩ = some (.int .i64 a0_0) := (blk_cell BK201.out 0).trans rfl; have hcz44_1 : w41.cell? ⟨gb201, 1, none⟩ = some (.int .i64 a0_1) := (blk_cell BK201.out 1).trans rfl; have hfz44_0 := blk_frozen BK201.out 0; have hfz44_1 := blk_frozen BK201.out 1; have hnb45 := NB202_203.out; have hnc45 := NB203_202.out; have hcz46_0 : w41.cell? ⟨gb202, 0, none⟩ = some (.int .i64 a1_0) := (blk_cell BK202.out 0).trans rfl; have hcz46_1 : w41.cell? ⟨gb202, 1, none⟩ = some (.int .i64 a1_1) := (blk_cell BK202.out 1).trans rfl; have hfz46_0 := blk_frozen BK202.out 0; have hfz46_1 := blk_frozen BK202.out 1; have hcz47_0 : w41.cell? ⟨gb203, 0, none⟩ = some (.int .i64 a2_0) := (blk_cell BK203.out 0).trans rfl; have hcz47_1 : w41.cell? ⟨gb203, 1, none⟩ = some (.int .i64 a2_1) := (blk_cell BK203.out 1).trans rfl; have hfz47_0 := blk_frozen BK203.out 0; have hfz47_1 := blk_frozen BK203.out 1) | ((with_reducible refine gate_callee (f := 23) rfl ?_); refine goesL_ (some 10) rfl rfl Tryd.func23 (by kernel_rfl) rfl #[.agg #[.int .i64 a0_0, .int .i64 a0_1], .agg #[.int .i64 a1_0, .int .i64 a1_1], .agg #[.int .i64 a2_0, .int .i64 a2_1]] rfl zn ?_; (with_reducible refine (impl_turn.calls a0_0 a0_1 a1_0 a1_1 a2_0 a2_1 t204 _ A4.out).mono ?_); rintro e w48 ⟨rfl, hb⟩; refine ⟨_, rfl, ?_⟩; have n0_ := Aside0.mk (blk_below (g := gb201) (o := .cells #[.int .i64 a0_0, .int .i64 a0_1] 33 (0, 0)) zk hb); have n1_ := Aside0.mk (blk_below (g := gb202) (o := .cells #[.int .i64 a1_0, .int .i64 a1_1] 33 (0, 0)) zk hb); have n2_ := Aside0.mk (blk_below (g := gb203) (o := .cells #[.int .i64 a2_0, .int .i64 a2_1] 33 (0, 0)) zk hb); have n3_ := Aside0.mk (below_step zb hb); clear BK201; clear BK202; clear BK203; clear HB; have BK201 := n0_; have BK202 := n1_; have BK203 := n2_; have HB := n3_; clear n0_ n1_ n2_ n3_; (try clear hb); (try clear hb2); (try clear hk); (try clear hi)))
  go_ret
  exact ⟨by first | rfl | (simp [errW_none, errW_some] <;> rfl) | (simp [*, errW_none, errW_some] <;> rfl), zb⟩
end Go.Proofs.YtphpdfcblchpnaaDoor.Q
namespace Go.Proofs.YtphpdfcblchpnaaDoor.Q
open Go.RowKit Go.Proofs.YtphpdfcblchpnaaDoorW.PrintWords Go.Proofs.YtphpdfcblchpnaaDoorW.PrintLast Go.Proofs.YtphpdfcblchpnaaDoorW.PrintMore
attribute [local go_sem] max2_int min2_int max_two min_two max_three min_three max_four min_four   -- for this text's walks alone
set_option linter.unusedVariables false
set_option linter.unusedSimpArgs false
def impl_meet.j0 : Nat → Bool → Int → Int → Int → Int → Int → Int → Int → Int → Option (Bool)
 | 0, _, _, _, _, _, _, _, _, _ => none
 | k + 1, x34, x208000, x208001, x209000, x209001, x210000, x210001, x211000, x211001 => if x34 = true then (some true) else ((impl_isOn.f x208000 x208001 x209000 x209001 x210000 x210001).bind fun t219 => (if t219 = true then (some true) else ((impl_isOn.f x208000 x208001 x209000 x209001 x211000 x211001).bind fun t220 => (if t220 = true then (some true) else ((impl_isOn.f x210000 x210001 x211000 x211001 x208000 x208001).bind fun t221 => (if t221 = true then (some true) else ((impl_isOn.f x210000 x210001 x211000 x211001 x209000 x209001).bind fun t222 => (some t222))))))))
def impl_meet.f (k : Nat) (a0_0 : Int) (a0_1 : Int) (a1_0 : Int) (a1_1 : Int) (a2_0 : Int) (a2_1 : Int) (a3_0 : Int) (a3_1 : Int) : Option (Bool) := (impl_turn.f a0_0 a0_1 a1_0 a1_1 a2_0 a2_1).bind fun t211 => ((impl_sign.f t211).bind fun t212 => ((impl_turn.f a0_0 a0_1 a1_0 a1_1 a3_0 a3_1).bind fun t213 => ((impl_sign.f t213).bind fun t214 => (if (wrap64 (t212 * t214)) < 0 then ((impl_turn.f a2_0 a2_1 a3_0 a3_1 a0_0 a0_1).bind fun t215 => ((impl_sign.f t215).bind fun t216 => ((impl_turn.f a2_0 a2_1 a3_0 a3_1 a1_0 a1_1).bind fun t217 => ((impl_sign.f t217).bind fun t218 => (impl_meet.j0 k (decide ((wrap64 (t216 * t218)) < 0)) a0_0 a0_1 a1_0 a1_1 a2_0 a2_1 a3_0 a3_1))))) else (impl_meet.j0 k false a0_0 a0_1 a1_0 a1_1 a2_0 a2_1 a3_0 a3_1)))))
def impl_meet.T1 : Bool × List (List Nat × List Nat) := (true, [([], []), ([], []), ([], []), ([0, 1, 2], [0, 1, 2]), ([3, 3], [3]), ([], []), ([], []), ([], []), ([5, 6, 7, 4], [5, 6, 7]), ([8, 8], [8]), ([4, 9], [4, 9]), ([10], [10]), ([11, 9], [11]), ([12], [12]), ([12], [12]), ([12], [12]), ([13, 14, 15, 12, 12], [12, 13, 14, 15]), ([16, 16, 12], [12, 16]), ([12], [12]), ([12], [12]), ([12], [12]), ([18, 19, 20, 17, 12], [12, 18, 19, 20]), ([21, 21, 12], [12, 21]), ([17, 22, 12], [12, 17, 22]), ([23, 12], [12, 23]), ([12, 24], [12, 24])])
def impl_meet.B1 : List Nat := [0, 0, 0, 7, 15, 0, 0, 0, 255, 511, 1023, 2047, 4095, 8191, 8191, 8191, 65535, 131071, 8191, 8191, 8191, 2097151, 4194303, 8388607, 16777215, 33554431]
theorem impl_meet.tab1 : rtab .any (opsOf Tryd.f25 1) = impl_meet.T1 := by kernel_rfl
theorem impl_meet.bits1 : waitsOk impl_meet.T1.2 impl_meet.B1 = true := by kernel_rfl
set_option maxHeartbeats 8000000 in
set_option maxRecDepth 100000 in
theorem impl_meet.calls (k : Nat) (a0_0 : Int) (a0_1 : Int) (a1_0 : Int) (a1_1 : Int) (a2_0 : Int) (a2_1 : Int) (a3_0 : Int) (a3_1 : Int) (r : Bool) (w : World) (h : impl_meet.f k a0_0 a0_1 a1_0 a1_1 a2_0 a2_1 a3_0 a3_1 = some r) :
  Calls Tryd.prog 25 #[.agg #[.int .i64 a0_0, .int .i64 a0_1], .agg #[.int .i64 a1_0, .int .i64 a1_1], .agg #[.int .i64 a2_0, .int .i64 a2_1], .agg #[.int .i64 a3_0, .int .i64 a3_1]] w fun e w' => e = .returned (.bool r) ∧ Below w.heap.size w w' := by
 have hu33 := Tryd.underlying33
 have HB := Aside0.mk (Below.refl w.heap.size w)
 have H : ((impl_turn.f a0_0 a0_1 a1_0 a1_1 a2_0 a2_1).bind fun t211 => ((impl_sign.f t211).bind fun t212 => ((impl_turn.f a0_0 a0_1 a1_0 a1_1 a3_0 a3_1).bind fun t213 => ((impl_sign.f t213).bind fun t214 => (if (wrap64 (t212 * t214)) < 0 then ((impl_turn.f a2_0 a2_1 a3_0 a3_1 a0_0 a0_1).bind fun t215 => ((impl_sign.f t215).bind fun t216 => ((impl_turn.f a2_0 a2_1 a3_0 a3_1 a1_0 a1_1).bind fun t217 => ((impl_sign.f t217).bind fun t218 => (impl_meet.j0 k (decide ((wrap64 (t216 * t218)) < 0)) a0_0 a0_1 a1_0 a1_1 a2_0 a2_1 a3_0 a3_1))))) else (impl_meet.j0 k false a0_0 a0_1 a1_0 a1_1 a2_0 a2_1 a3_0 a3_1)))))) = some r := h
 clear h
 have HC5 := Aside0.mk H
 clear H
 go_enter Tryd.func25, Tryd.ntmps25
 go_upto_region 1 with (first | ((with_reducible refine gate_dst (N := 4) rfl ?_); refine box_event ?hg (N := 4) ?hd (cs := #[.int .i64 a0_0, .int .i64 a0_1]) (t := 33) ?hr ?_; (case hd => rfl); (case hg => rfl); (case hr => first | (go_simp; done) | (go_simp; rfl)); intro gb207 hg w6 hbox hb; have n0_ := Aside0.mk (below_step zb hb); have n1_ := Aside0.mk (hbox); have n2_ := Aside0.mk ((by rw [hg]; exact (below_size zb) : w.heap.size ≤ gb207)); have n3_ := Aside0.mk ((by rw [hg]; exact (below_size zb) : w.heap.size ≤ gb207)); clear HB; have HB := n0_; have BK207 := n1_; have GW207 := n2_; have GE207 := n3_; clear n0_ n1_ n2_ n3_; clear hb hbox hg) | ((with_reducible refine gate_dst (N := 5) rfl ?_); refine box_event ?hg (N := 5) ?hd (cs := #[.int .i64 a1_0, .int .i64 a1_1]) (t := 33) ?hr ?_; (case hd => rfl); (case hg => rfl); (case hr => first | (go_simp; done) | (go_simp; rfl)); intro gb208 hg w7 hbox hb; have n0_ := Aside0.mk (blk_below (g := gb207) (o := .cells #[.int .i64 a0_0, .int .i64 a0_1] 33 (0, 0)) zk hb); have n1_ := Aside0.mk (below_step zb hb); have n2_ := Aside0.mk (hbox); have n3_ := Aside0.mk ((by rw [hg]; exact (below_size zb) : w.heap.size ≤ gb208)); have n4_ := Aside0.mk ((by rw [hg]; exact (below_size zb) : w.heap.size ≤ gb208)); have n5_ := Aside0.mk ((by rw [hg]; exact Nat.ne_of_lt (blk_lt (g := gb207) (o := .cells #[.int .i64 a0_0, .int .i64 a0_1] 33 (0, 0)) zk) : gb207 ≠ gb208)); have n6_ := Aside0.mk ((by rw [hg]; exact Nat.ne_of_gt (blk_lt (g := gb207) (o := .cells #[.int .i64 a0_0, .int .i64 a0_1] 33 (0, 0)) zk) : gb208 ≠ gb207)); clear BK207; clear HB; have BK207 := n0_; have HB := n1_; have BK208 := n2_; have GW208 := n3_; have GE208 := n4_; have NB207_208 := n5_; have NB208_207 := n6_; clear n0_ n1_ n2_ n3_ n4_ n5_ n6_; clear hb hbox hg) | ((with_reducible refine gate_dst (N := 6) rfl ?_); refine box_event ?hg (N := 6) ?hd (cs := #[.int .i64 a2_0, .int .i64 a2_1]) (t := 33) ?hr ?_; (case hd => rfl); (case hg => rfl); (case hr => first | (go_simp; done) | (go_simp; rfl)); intro gb209 hg w8 hbox hb; have n0_ := Aside0.mk (blk_below (g := gb207) (o := .cells #[.int .i64 a0_0, .int .i64 a0_1] 33 (0, 0)) zk hb); have n1_ := Aside0.mk (blk_below (g := gb208) (o := .cells #[.int .i64 a1_0, .int .i64 a1_1] 33 (0, 0)) zk hb); have n2_ := Aside0.mk (below_step zb hb); have n3_ := Aside0.mk (hbox); have n4_ := Aside0.mk ((by rw [hg]; exact (below_size zb) : w.heap.size ≤ gb209)); have n5_ := Aside0.mk ((by rw [hg]; exact (below_size zb) : w.heap.size ≤ gb209)); have n6_ := Aside0.mk ((by rw [hg]; exact Nat.ne_of_lt (blk_lt (g := gb207) (o := .cells #[.int .i64 a0_0, .int .i64 a0_1] 33 (0, 0)) zk) : gb207 ≠ gb209)); have n7_ := Aside0.mk ((by rw [hg]; exact Nat.ne_of_gt (blk_lt (g := gb207) (o := .cells #[.int .i64 a0_0, .int .i64 a0_1] 33 (0, 0)) zk) : gb209 ≠ gb207)); have n8_ := Aside0.mk ((by rw [hg]; exact Nat.ne_of_lt (blk_lt (g := gb208) (o := .cells #[.int .i64 a1_0, .int .i64 a1_1] 33 (0, 0)) zk) : gb208 ≠ gb209)); have n9_ := Aside0.mk ((by rw [hg]; exact Nat.ne_of_gt (blk_lt (g := gb208) (o := .cells #[.int .i64 a1_0, .int .i64 a1_1] 33 (0, 0)) zk) : gb209 ≠ gb208)); clear BK207; clear BK208; clear HB; have BK207 := n0_; have BK208 := n1_; have HB := n2_; have BK209 := n3_; have GW209 := n4_; have GE209 := n5_; have NB207_209 := n6_; have NB209_207 := n7_; have NB208_209 := n8_; have NB209_208 := n9_; clear n0_ n1_ n2_ n3_ n4_ n5_ n6_ n7_ n8_ n9_; clear hb hbox hg) | ((with_reducible refine gate_dst (N := 7) rfl ?_); refine box_event ?hg (N := 7) ?hd (cs := #[.int .i64 a3_0, .int .i64 a3_1]) (t := 33) ?hr ?_; (case hd => rfl); (case hg => rfl); (case hr => first | (go_simp; done) | (go_simp; rfl)); intro gb210 hg w9 hbox hb; have n0_ := Aside0.mk (blk_below (g := gb207) (o := .cells #[.int .i64 a0_0, .int .i64 a0_1] 33 (0, 0)) zk hb); have n1_ := Aside0.mk (blk_below (g := gb208) (o := .cells #[.int .i64 a1_0, .int .i64 a1_1] 33 (0, 0)) zk hb); have n2_ := Aside0.mk (blk_below (g := gb209) (o := .cells #[.int .i64 a2_0, .int .i64 a2_1] 33 (0, 0)) zk hb); have n3_ := Aside0.mk (below_step zb hb); have n4_ := Aside0.mk (hbox); have n5_ := Aside0.mk ((by rw [hg]; exact (below_size zb) : w.heap.size ≤ gb210)); have n6_ := Aside0.mk ((by rw [hg]; exact (below_size zb) : w.heap.size ≤ gb210)); have n7_ := Aside0.mk ((by rw [hg]; exact Nat.ne_of_lt (blk_lt (g := gb207) (o := .cells #[.int .i64 a0_0, .int .i64 a0_1] 33 (0, 0)) zk) : gb207 ≠ gb210)); have n8_ := Aside0.mk ((by rw [hg]; exact Nat.ne_of_gt (blk_lt (g := gb207) (o := .cells #[.int .i64 a0_0, .int .i64 a0_1] 33 (0, 0)) zk) : gb210 ≠ gb207)); have n9_ := Aside0.mk ((by rw [hg]; exact Nat.ne_of_lt (blk_lt (g := gb208) (o := .cells #[.int .i64 a1_0, .int .i64 a1_1] 33 (0, 0)) zk) : gb208 ≠ gb210)); have n10_ := Aside0.mk ((by rw [hg]; exact Nat.ne_of_gt (blk_lt (g := gb208) (o := .cells #[.int .i64 a1_0, .int .i64 a1_1] 33 (0, 0)) zk) : gb210 ≠ gb208)); have n11_ := Aside0.mk ((by rw [hg]; exact Nat.ne_of_lt (blk_lt (g := gb209) (o := .cells #[.int .i64 a2_0, .int .i64 a2_1] 33 (0, 0)) zk) : gb209 ≠ gb210)); have n12_ := Aside0.mk ((by rw [hg]; exact Nat.ne_of_gt (blk_lt (g := gb209) (o := .cells #[.int .i64 a2_0, .int .i64 a2_1] 33 (0, 0)) zk) : gb210 ≠ gb209)); clear BK207; clear BK208; clear BK209; clear HB; have BK207 := n0_; have BK208 := n1_; have BK209 := n2_; have HB := n3_; have BK210 := n4_; have GW210 := n5_; have GE210 := n6_; have NB207_210 := n7_; have NB210_207 := n8_; have NB208_210 := n9_; have NB210_208 := n10_; have NB209_210 := n11_; have NB210_209 := n12_; clear n0_ n1_ n2_ n3_ n4_ n5_ n6_ n7_ n8_ n9_ n10_ n11_ n12_; clear hb hbox hg))
 (try simp only [Act.put, List.setIfInBounds_toArray, List.set_cons_zero, List.set_cons_succ])
 go_cut [34] (fun v34 wc => ∃ (kq : Nat) (x34_4 : Bool), v34 = .bool x34_4 ∧ Aside0 (impl_meet.j0 kq x34_4 a0_0 a0_1 a1_0 a1_1 a2_0 a2_1 a3_0 a3_1 = some r) ∧ Aside0 (kq ≤ k) ∧ Aside0 (wc.heap[gb207]? = some (.cells #[.int .i64 a0_0, .int .i64 a0_1] 33 (0, 0))) ∧ Aside0 (wc.heap[gb208]? = some (.cells #[.int .i64 a1_0, .int .i64 a1_1] 33 (0, 0))) ∧ Aside0 (wc.heap[gb209]? = some (.cells #[.int .i64 a2_0, .int .i64 a2_1] 33 (0, 0))) ∧ Aside0 (wc.heap[gb210]? = some (.cells #[.int .i64 a3_0, .int .i64 a3_1] 33 (0, 0))) ∧ Aside0 (Below w.heap.size w wc))
 case first =>
  have H := HC5.out
  clear HC5
  replace H := Option.bind_eq_some_iff.mp H
  obtain ⟨t211, A100, H⟩ := H
  replace H : ((impl_sign.f t211).bind fun t212 => ((impl_turn.f a0_0 a0_1 a1_0 a1_1 a3_0 a3_1).bind fun t213 => ((impl_sign.f t213).bind fun t214 => (if (wrap64 (t212 * t214)) < 0 then ((impl_turn.f a2_0 a2_1 a3_0 a3_1 a0_0 a0_1).bind fun t215 => ((impl_sign.f t215).bind fun t216 => ((impl_turn.f a2_0 a2_1 a3_0 a3_1 a1_0 a1_1).bind fun t217 => ((impl_sign.f t217).bind fun t218 => (impl_meet.j0 k (decide ((wrap64 (t216 * t218)) < 0)) a0_0 a0_1 a1_0 a1_1 a2_0 a2_1 a3_0 a3_1))))) else (impl_meet.j0 k false a0_0 a0_1 a1_0 a1_1 a2_0 a2_1 a3_0 a3_1))))) = some r := H
  have A10 := Aside0.mk A100
  clear A100
  replace H := Option.bind_eq_some_iff.mp H
  obtain ⟨t212, A110, H⟩ := H
  replace H : ((impl_turn.f a0_0 a0_1 a1_0 a1_1 a3_0 a3_1).bind fun t213 => ((impl_sign.f t213).bind fun t214 => (if (wrap64 (t212 * t214)) < 0 then ((impl_turn.f a2_0 a2_1 a3_0 a3_1 a0_0 a0_1).bind fun t215 => ((impl_sign.f t215).bind fun t216 => ((impl_turn.f a2_0 a2_1 a3_0 a3_1 a1_0 a1_1).bind fun t217 => ((impl_sign.f t217).bind fun t218 => (impl_meet.j0 k (decide ((wrap64 (t216 * t218)) < 0)) a0_0 a0_1 a1_0 a1_1 a2_0 a2_1 a3_0 a3_1))))) else (impl_meet.j0 k false a0_0 a0_1 a1_0 a1_1 a2_0 a2_1 a3_0 a3_1)))) = some r := H
  have A11 := Aside0.mk A110
  clear A110
  replace H := Option.bind_eq_some_iff.mp H
  obtain ⟨t213, A120, H⟩ := H
  replace H : ((impl_sign.f t213).bind fun t214 => (if (wrap64 (t212 * t214)) < 0 then ((impl_turn.f a2_0 a2_1 a3_0 a3_1 a0_0 a0_1).bind fun t215 => ((impl_sign.f t215).bind fun t216 => ((impl_turn.f a2_0 a2_1 a3_0 a3_1 a1_0 a1_1).bind fun t217 => ((impl_sign.f t217).bind fun t218 => (impl_meet.j0 k (decide ((wrap64 (t216 * t218)) < 0)) a0_0 a0_1 a1_0 a1_1 a2_0 a2_1 a3_0 a3_1))))) else (impl_meet.j0 k false a0_0 a0_1 a1_0 a1_1 a2_0 a2_1 a3_0 a3_1))) = some r := H
  have A12 := Aside0.mk A120
  clear A120
  replace H := Option.bind_eq_some_iff.mp H
  obtain ⟨t214, A130, H⟩ := H
  replace H : (if (wrap64 (t212 * t214)) < 0 then ((impl_turn.f a2_0 a2_1 a3_0 a3_1 a0_0 a0_1).bind fun t215 => ((impl_sign.f t215).bind fun t216 => ((impl_turn.f a2_0 a2_1 a3_0 a3_1 a1_0 a1_1).bind fun t217 => ((impl_sign.f t217).bind fun t218 => (impl_meet.j0 k (decide ((wrap64 (t216 * t218)) < 0)) a0_0 a0_1 a1_0 a1_1 a2_0 a2_1 a3_0 a3_1))))) else (impl_meet.j0 k false a0_0 a0_1 a1_0 a1_1 a2_0 a2_1 a3_0 a3_1)) = some r := H
  have A13 := Aside0.mk A130
  clear A130
  by_cases c14 : (wrap64 (t212 * t214)) < 0
  ·rw [if_pos c14] at H
   have c14b0 : decide ((wrap64 (t212 * t214)) < 0) = true := decide_eq_true c14
   clear c14
   (first | rw [c14b0] | (simp only [i64_w, i32_w]; rw [c14b0]) | skip)
   replace H := Option.bind_eq_some_iff.mp H
   obtain ⟨t215, A150, H⟩ := H
   replace H : ((impl_sign.f t215).bind fun t216 => ((impl_turn.f a2_0 a2_1 a3_0 a3_1 a1_0 a1_1).bind fun t217 => ((impl_sign.f t217).bind fun t218 => (impl_meet.j0 k (decide ((wrap64 (t216 * t218)) < 0)) a0_0 a0_1 a1_0 a1_1 a2_0 a2_1 a3_0 a3_1)))) = some r := H
   have A15 := Aside0.mk A150
   clear A150
   replace H := Option.bind_eq_some_iff.mp H
   obtain ⟨t216, A160, H⟩ := H
   replace H : ((impl_turn.f a2_0 a2_1 a3_0 a3_1 a1_0 a1_1).bind fun t217 => ((impl_sign.f t217).bind fun t218 => (impl_meet.j0 k (decide ((wrap64 (t216 * t218)) < 0)) a0_0 a0_1 a1_0 a1_1 a2_0 a2_1 a3_0 a3_1))) = some r := H
   have A16 := Aside0.mk A160
   clear A160
   replace H := Option.bind_eq_some_iff.mp H
   obtain ⟨t217, A170, H⟩ := H
   replace H : ((impl_sign.f t217).bind fun t218 => (impl_meet.j0 k (decide ((wrap64 (t216 * t218)) < 0)) a0_0 a0_1 a1_0 a1_1 a2_0 a2_1 a3_0 a3_1)) = some r := H
   have A17 := Aside0.mk A170
   clear A170
   replace H := Option.bind_eq_some_iff.mp H
   obtain ⟨t218, A180, H⟩ := H
   replace H : (impl_meet.j0 k (decide ((wrap64 (t216 * t218)) < 0)) a0_0 a0_1 a1_0 a1_1 a2_0 a2_1 a3_0 a3_1) = some r := H
   have A18 := Aside0.mk A180
   clear A180
   have H' := Aside0.mk H
   clear H
   try go_wp2
   have n0_ := Aside0.mk (blk_drew BK207.out)
   have n1_ := Aside0.mk (blk_drew BK208.out)
   have n2_ := Aside0.mk (blk_drew BK209.out)
   have n3_ := Aside0.mk (blk_drew BK210.out)
   have n4_ := Aside0.mk (below_drew1 HB.out)
   clear BK207
   clear BK208
   clear BK209
   clear BK210
   clear HB
   have BK207 := n0_
   have BK208 := n1_
   have BK209 := n2_
   have BK210 := n3_
   have HB := n4_
   clear n0_ n1_ n2_ n3_ n4_
   refine start_ (n := 26) (S := fun w' => w'.cell? ⟨gb207, 0, none⟩ = some (.int .i64 a0_0) ∧ w'.cell? ⟨gb207, 1, none⟩ = some (.int .i64 a0_1) ∧ w'.cell? ⟨gb208, 0, none⟩ = some (.int .i64 a1_0) ∧ w'.cell? ⟨gb208, 1, none⟩ = some (.int .i64 a1_1) ∧ w'.cell? ⟨gb209, 0, none⟩ = some (.int .i64 a2_0) ∧ w'.cell? ⟨gb209, 1, none⟩ = some (.int .i64 a2_1) ∧ w'.cell? ⟨gb210, 0, none⟩ = some (.int .i64 a3_0) ∧ w'.cell? ⟨gb210, 1, none⟩ = some (.int .i64 a3_1)) (ds := []) (zl 26 0) (by kernel_rfl) rfl rfl ⟨(blk_cell BK207.out 0).trans rfl, (blk_cell BK207.out 1).trans rfl, (blk_cell BK208.out 0).trans rfl, (blk_cell BK208.out 1).trans rfl, (blk_cell BK209.out 0).trans rfl, (blk_cell BK209.out 1).trans rfl, (blk_cell BK210.out 0).trans rfl, (blk_cell BK210.out 1).trans rfl⟩ (fun hHeld => ?_); refine with_tabW impl_meet.tab1 impl_meet.bits1 (fun HT_ HW_ => ?_)
   generalize w9.drew = w19 at BK207 BK208 BK209 BK210 HB hHeld ⊢
   refine take_ (i := 0) (N := some 9) (v := ?_) (a' := ?_) (zl 26 1) rfl rfl (take_ofW HT_.out HW_.out (by kernel_rfl)) (fun _ _ _ h => h) (Or.inl ⟨by rfl, ?_⟩) hHeld ?_ ?_
   rotate_left
   ·rintro w' ⟨s0, s1, s2, s3, s4, s5, s6, s7⟩
    go_simp
    with_reducible rfl
   rotate_left
   ·exact zs
   refine take_ (i := 1) (N := some 10) (v := ?_) (a' := ?_) (zl 26 3) rfl rfl (take_ofW HT_.out HW_.out (by kernel_rfl)) (fun _ _ _ h => h) (Or.inl ⟨by rfl, ?_⟩) hHeld ?_ ?_
   rotate_left
   ·rintro w' ⟨s0, s1, s2, s3, s4, s5, s6, s7⟩
    go_simp
    with_reducible rfl
   rotate_left
   ·exact zs
   refine take_ (i := 2) (N := some 11) (v := ?_) (a' := ?_) (zl 26 7) rfl rfl (take_ofW HT_.out HW_.out (by kernel_rfl)) (fun _ _ _ h => h) (Or.inl ⟨by rfl, ?_⟩) hHeld ?_ ?_
   rotate_left
   ·rintro w' ⟨s0, s1, s2, s3, s4, s5, s6, s7⟩
    go_simp
    with_reducible rfl
   rotate_left
   ·exact zs
   refine take_ (i := 5) (N := some 14) (v := ?_) (a' := ?_) (zl 26 39) rfl rfl (take_ofW HT_.out HW_.out (by kernel_rfl)) (fun _ _ _ h => h) (Or.inl ⟨by rfl, ?_⟩) hHeld ?_ ?_
   rotate_left
   ·rintro w' ⟨s0, s1, s2, s3, s4, s5, s6, s7⟩
    go_simp
    with_reducible rfl
   rotate_left
   ·exact zs
   refine take_ (i := 6) (N := some 15) (v := ?_) (a' := ?_) (zl 26 103) rfl rfl (take_ofW HT_.out HW_.out (by kernel_rfl)) (fun _ _ _ h => h) (Or.inl ⟨by rfl, ?_⟩) hHeld ?_ ?_
   rotate_left
   ·rintro w' ⟨s0, s1, s2, s3, s4, s5, s6, s7⟩
    go_simp
    with_reducible rfl
   rotate_left
   ·exact zs
   refine take_ (i := 7) (N := some 16) (v := ?_) (a' := ?_) (zl 26 231) rfl rfl (take_ofW HT_.out HW_.out (by kernel_rfl)) (fun _ _ _ h => h) (Or.inl ⟨by rfl, ?_⟩) hHeld ?_ ?_
   rotate_left
   ·rintro w' ⟨s0, s1, s2, s3, s4, s5, s6, s7⟩
    go_simp
    with_reducible rfl
   rotate_left
   ·exact zs
   refine one_ (i := 3) (N := some 12) (zl 26 239) rfl rfl (one_of HT_.out (by kernel_rfl)) (by decide) (fun K hK => ?_)
   refine goes_ Tryd.func23 (by kernel_rfl) rfl #[.agg #[.int .i64 a0_0, .int .i64 a0_1], .agg #[.int .i64 a1_0, .int .i64 a1_1], .agg #[.int .i64 a2_0, .int .i64 a2_1]] (by rfl) rfl rfl zn ?_
   with_reducible refine (impl_turn.calls a0_0 a0_1 a1_0 a1_1 a2_0 a2_1 t211 _ A10.out).mono ?_
   rintro e w20 ⟨rfl, hb⟩
   refine ⟨_, rfl, ?_⟩
   have n0_ := Aside0.mk (blk_below (g := gb207) (o := .cells #[.int .i64 a0_0, .int .i64 a0_1] 33 (0, 0)) zk hb)
   have n1_ := Aside0.mk (blk_below (g := gb208) (o := .cells #[.int .i64 a1_0, .int .i64 a1_1] 33 (0, 0)) zk hb)
   have n2_ := Aside0.mk (blk_below (g := gb209) (o := .cells #[.int .i64 a2_0, .int .i64 a2_1] 33 (0, 0)) zk hb)
   have n3_ := Aside0.mk (blk_below (g := gb210) (o := .cells #[.int .i64 a3_0, .int .i64 a3_1] 33 (0, 0)) zk hb)
   have n4_ := Aside0.mk (below_step zb hb)
   clear BK207
   clear BK208
   clear BK209
   clear BK210
   clear HB
   have BK207 := n0_
   have BK208 := n1_
   have BK209 := n2_
   have BK210 := n3_
   have HB := n4_
   clear n0_ n1_ n2_ n3_ n4_
   (try clear hb)
   (try clear hb2)
   (try clear hk)
   (try clear hi)
   refine hK.out _ _ ⟨(blk_cell BK207.out 0).trans rfl, (blk_cell BK207.out 1).trans rfl, (blk_cell BK208.out 0).trans rfl, (blk_cell BK208.out 1).trans rfl, (blk_cell BK209.out 0).trans rfl, (blk_cell BK209.out 1).trans rfl, (blk_cell BK210.out 0).trans rfl, (blk_cell BK210.out 1).trans rfl⟩ (fun hHeld => ?_)
   clear hK K
   refine norm_ (a' := ?_) ?_ ?_
   rotate_left
   ·show Act.put _ (some 12) _ = _
    exact zs
   refine one_ (i := 4) (N := some 13) (zl 26 255) rfl rfl (one_of HT_.out (by kernel_rfl)) (by decide) (fun K hK => ?_)
   refine goes_ Tryd.func37 (by kernel_rfl) rfl #[.int .i64 t211] (by rfl) rfl rfl zn ?_
   with_reducible refine (impl_sign.calls t211 t212 _ A11.out).mono ?_
   rintro e w21 ⟨rfl, hb⟩
   refine ⟨_, rfl, ?_⟩
   have n0_ := Aside0.mk (blk_below (g := gb207) (o := .cells #[.int .i64 a0_0, .int .i64 a0_1] 33 (0, 0)) zk hb)
   have n1_ := Aside0.mk (blk_below (g := gb208) (o := .cells #[.int .i64 a1_0, .int .i64 a1_1] 33 (0, 0)) zk hb)
   have n2_ := Aside0.mk (blk_below (g := gb209) (o := .cells #[.int .i64 a2_0, .int .i64 a2_1] 33 (0, 0)) zk hb)
   have n3_ := Aside0.mk (blk_below (g := gb210) (o := .cells #[.int .i64 a3_0, .int .i64 a3_1] 33 (0, 0)) zk hb)
   have n4_ := Aside0.mk (below_step zb hb)
   clear BK207
   clear BK208
   clear BK209
   clear BK210
   clear HB
   have BK207 := n0_
   have BK208 := n1_
   have BK209 := n2_
   have BK210 := n3_
   have HB := n4_
   clear n0_ n1_ n2_ n3_ n4_
   (try clear hb)
   (try clear hb2)
   (try clear hk)
   (try clear hi)
   refine hK.out _ _ ⟨(blk_cell BK207.out 0).trans rfl, (blk_cell BK207.out 1).trans rfl, (blk_cell BK208.out 0).trans rfl, (blk_cell BK208.out 1).trans rfl, (blk_cell BK209.out 0).trans rfl, (blk_cell BK209.out 1).trans rfl, (blk_cell BK210.out 0).trans rfl, (blk_cell BK210.out 1).trans rfl⟩ (fun hHeld => ?_)
   clear hK K
   refine norm_ (a' := ?_) ?_ ?_
   rotate_left
   ·show Act.put _ (some 13) _ = _
    exact zs
   refine one_ (i := 8) (N := some 17) (zl 26 511) rfl rfl (one_of HT_.out (by kernel_rfl)) (by decide) (fun K hK => ?_)
   refine goes_ Tryd.func23 (by kernel_rfl) rfl #[.agg #[.int .i64 a0_0, .int .i64 a0_1], .agg #[.int .i64 a1_0, .int .i64 a1_1], .agg #[.int .i64 a3_0, .int .i64 a3_1]] (by rfl) rfl rfl zn ?_
   with_reducible refine (impl_turn.calls a0_0 a0_1 a1_0 a1_1 a3_0 a3_1 t213 _ A12.out).mono ?_
   rintro e w22 ⟨rfl, hb⟩
   refine ⟨_, rfl, ?_⟩
   have n0_ := Aside0.mk (blk_below (g := gb207) (o := .cells #[.int .i64 a0_0, .int .i64 a0_1] 33 (0, 0)) zk hb)
   have n1_ := Aside0.mk (blk_below (g := gb208) (o := .cells #[.int .i64 a1_0, .int .i64 a1_1] 33 (0, 0)) zk hb)
   have n2_ := Aside0.mk (blk_below (g := gb209) (o := .cells #[.int .i64 a2_0, .int .i64 a2_1] 33 (0, 0)) zk hb)
   have n3_ := Aside0.mk (blk_below (g := gb210) (o := .cells #[.int .i64 a3_0, .int .i64 a3_1] 33 (0, 0)) zk hb)
   have n4_ := Aside0.mk (below_step zb hb)
   clear BK207
   clear BK208
   clear BK209
   clear BK210
   clear HB
   have BK207 := n0_
   have BK208 := n1_
   have BK209 := n2_
   have BK210 := n3_
   have HB := n4_
   clear n0_ n1_ n2_ n3_ n4_
   (try clear hb)
   (try clear hb2)
   (try clear hk)
   (try clear hi)
   refine hK.out _ _ ⟨(blk_cell BK207.out 0).trans rfl, (blk_cell BK207.out 1).trans rfl, (blk_cell BK208.out 0).trans rfl, (blk_cell BK208.out 1).trans rfl, (blk_cell BK209.out 0).trans rfl, (blk_cell BK209.out 1).trans rfl, (blk_cell BK210.out 0).trans rfl, (blk_cell BK210.out 1).trans rfl⟩ (fun hHeld => ?_)
   clear hK K
   refine norm_ (a' := ?_) ?_ ?_
   rotate_left
   ·show Act.put _ (some 17) _ = _
    exact zs
   refine one_ (i := 9) (N := some 18) (zl 26 1023) rfl rfl (one_of HT_.out (by kernel_rfl)) (by decide) (fun K hK => ?_)
   refine goes_ Tryd.func37 (by kernel_rfl) rfl #[.int .i64 t213] (by rfl) rfl rfl zn ?_
   with_reducible refine (impl_sign.calls t213 t214 _ A13.out).mono ?_
   rintro e w23 ⟨rfl, hb⟩
   refine ⟨_, rfl, ?_⟩
   have n0_ := Aside0.mk (blk_below (g := gb207) (o := .cells #[.int .i64 a0_0, .int .i64 a0_1] 33 (0, 0)) zk hb)
   have n1_ := Aside0.mk (blk_below (g := gb208) (o := .cells #[.int .i64 a1_0, .int .i64 a1_1] 33 (0, 0)) zk hb)
   have n2_ := Aside0.mk (blk_below (g := gb209) (o := .cells #[.int .i64 a2_0, .int .i64 a2_1] 33 (0, 0)) zk hb)
   have n3_ := Aside0.mk (blk_below (g := gb210) (o := .cells #[.int .i64 a3_0, .int .i64 a3_1] 33 (0, 0)) zk hb)
   have n4_ := Aside0.mk (below_step zb hb)
   clear BK207
   clear BK208
   clear BK209
   clear BK210
   clear HB
   have BK207 := n0_
   have BK208 := n1_
   have BK209 := n2_
   have BK210 := n3_
   have HB := n4_
   clear n0_ n1_ n2_ n3_ n4_
   (try clear hb)
   (try clear hb2)
   (try clear hk)
   (try clear hi)
   refine hK.out _ _ ⟨(blk_cell BK207.out 0).trans rfl, (blk_cell BK207.out 1).trans rfl, (blk_cell BK208.out 0).trans rfl, (blk_cell BK208.out 1).trans rfl, (blk_cell BK209.out 0).trans rfl, (blk_cell BK209.out 1).trans rfl, (blk_cell BK210.out 0).trans rfl, (blk_cell BK210.out 1).trans rfl⟩ (fun hHeld => ?_)
   clear hK K
   refine norm_ (a' := ?_) ?_ ?_
   rotate_left
   ·show Act.put _ (some 18) _ = _
    exact zs
   refine zp 10 19 26 2047 HT_ ?_
   refine zp 11 20 26 4095 HT_ ?_
   refine zp 12 21 26 8191 HT_ ?_
   refine take_ (i := 13) (N := some 22) (v := ?_) (a' := ?_) (zl 26 16383) rfl rfl (take_ofW HT_.out HW_.out (by kernel_rfl)) (fun _ _ _ h => h) (Or.inl ⟨by rfl, ?_⟩) hHeld ?_ ?_
   rotate_left
   ·rintro w' ⟨s0, s1, s2, s3, s4, s5, s6, s7⟩
    go_simp
    with_reducible rfl
   rotate_left
   ·exact zs
   refine take_ (i := 14) (N := some 23) (v := ?_) (a' := ?_) (zl 26 32767) rfl rfl (take_ofW HT_.out HW_.out (by kernel_rfl)) (fun _ _ _ h => h) (Or.inl ⟨by rfl, ?_⟩) hHeld ?_ ?_
   rotate_left
   ·rintro w' ⟨s0, s1, s2, s3, s4, s5, s6, s7⟩
    go_simp
    with_reducible rfl
   rotate_left
   ·exact zs
   refine take_ (i := 15) (N := some 24) (v := ?_) (a' := ?_) (zl 26 65535) rfl rfl (take_ofW HT_.out HW_.out (by kernel_rfl)) (fun _ _ _ h => h) (Or.inl ⟨by rfl, ?_⟩) hHeld ?_ ?_
   rotate_left
   ·rintro w' ⟨s0, s1, s2, s3, s4, s5, s6, s7⟩
    go_simp
    with_reducible rfl
   rotate_left
   ·exact zs
   refine take_ (i := 18) (N := some 27) (v := ?_) (a' := ?_) (zl 26 327679) rfl rfl (take_ofW HT_.out HW_.out (by kernel_rfl)) (fun _ _ _ h => h) (Or.inl ⟨by rfl, ?_⟩) hHeld ?_ ?_
   rotate_left
   ·rintro w' ⟨s0, s1, s2, s3, s4, s5, s6, s7⟩
    go_simp
    with_reducible rfl
   rotate_left
   ·exact zs
   refine take_ (i := 19) (N := some 28) (v := ?_) (a' := ?_) (zl 26 851967) rfl rfl (take_ofW HT_.out HW_.out (by kernel_rfl)) (fun _ _ _ h => h) (Or.inl ⟨by rfl, ?_⟩) hHeld ?_ ?_
   rotate_left
   ·rintro w' ⟨s0, s1, s2, s3, s4, s5, s6, s7⟩
    go_simp
    with_reducible rfl
   rotate_left
   ·exact zs
   refine take_ (i := 20) (N := some 29) (v := ?_) (a' := ?_) (zl 26 1900543) rfl rfl (take_ofW HT_.out HW_.out (by kernel_rfl)) (fun _ _ _ h => h) (Or.inl ⟨by rfl, ?_⟩) hHeld ?_ ?_
   rotate_left
   ·rintro w' ⟨s0, s1, s2, s3, s4, s5, s6, s7⟩
    go_simp
    with_reducible rfl
   rotate_left
   ·exact zs
   refine one_ (i := 16) (N := some 25) (zl 26 1966079) rfl rfl (one_of HT_.out (by kernel_rfl)) (by decide) (fun K hK => ?_)
   refine goes_ Tryd.func23 (by kernel_rfl) rfl #[.agg #[.int .i64 a2_0, .int .i64 a2_1], .agg #[.int .i64 a3_0, .int .i64 a3_1], .agg #[.int .i64 a0_0, .int .i64 a0_1]] (by rfl) rfl rfl zn ?_
   with_reducible refine (impl_turn.calls a2_0 a2_1 a3_0 a3_1 a0_0 a0_1 t215 _ A15.out).mono ?_
   rintro e w24 ⟨rfl, hb⟩
   refine ⟨_, rfl, ?_⟩
   have n0_ := Aside0.mk (blk_below (g := gb207) (o := .cells #[.int .i64 a0_0, .int .i64 a0_1] 33 (0, 0)) zk hb)
   have n1_ := Aside0.mk (blk_below (g := gb208) (o := .cells #[.int .i64 a1_0, .int .i64 a1_1] 33 (0, 0)) zk hb)
   have n2_ := Aside0.mk (blk_below (g := gb209) (o := .cells #[.int .i64 a2_0, .int .i64 a2_1] 33 (0, 0)) zk hb)
   have n3_ := Aside0.mk (blk_below (g := gb210) (o := .cells #[.int .i64 a3_0, .int .i64 a3_1] 33 (0, 0)) zk hb)
   have n4_ := Aside0.mk (below_step zb hb)
   clear BK207
   clear BK208
   clear BK209
   clear BK210
   clear HB
   have BK207 := n0_
   have BK208 := n1_
   have BK209 := n2_
   have BK210 := n3_
   have HB := n4_
   clear n0_ n1_ n2_ n3_ n4_
   (try clear hb)
   (try clear hb2)
   (try clear hk)
   (try clear hi)
   refine hK.out _ _ ⟨(blk_cell BK207.out 0).trans rfl, (blk_cell BK207.out 1).trans rfl, (blk_cell BK208.out 0).trans rfl, (blk_cell BK208.out 1).trans rfl, (blk_cell BK209.out 0).trans rfl, (blk_cell BK209.out 1).trans rfl, (blk_cell BK210.out 0).trans rfl, (blk_cell BK210.out 1).trans rfl⟩ (fun hHeld => ?_)
   clear hK K
   refine norm_ (a' := ?_) ?_ ?_
   rotate_left
   ·show Act.put _ (some 25) _ = _
    exact zs
   refine one_ (i := 17) (N := some 26) (zl 26 2097151) rfl rfl (one_of HT_.out (by kernel_rfl)) (by decide) (fun K hK => ?_)
   refine goes_ Tryd.func37 (by kernel_rfl) rfl #[.int .i64 t215] (by rfl) rfl rfl zn ?_
   with_reducible refine (impl_sign.calls t215 t216 _ A16.out).mono ?_
   rintro e w25 ⟨rfl, hb⟩
   refine ⟨_, rfl, ?_⟩
   have n0_ := Aside0.mk (blk_below (g := gb207) (o := .cells #[.int .i64 a0_0, .int .i64 a0_1] 33 (0, 0)) zk hb)
   have n1_ := Aside0.mk (blk_below (g := gb208) (o := .cells #[.int .i64 a1_0, .int .i64 a1_1] 33 (0, 0)) zk hb)
   have n2_ := Aside0.mk (blk_below (g := gb209) (o := .cells #[.int .i64 a2_0, .int .i64 a2_1] 33 (0, 0)) zk hb)
   have n3_ := Aside0.mk (blk_below (g := gb210) (o := .cells #[.int .i64 a3_0, .int .i64 a3_1] 33 (0, 0)) zk hb)
   have n4_ := Aside0.mk (below_step zb hb)
   clear BK207
   clear BK208
   clear BK209
   clear BK210
   clear HB
   have BK207 := n0_
   have BK208 := n1_
   have BK209 := n2_
   have BK210 := n3_
   have HB := n4_
   clear n0_ n1_ n2_ n3_ n4_
   (try clear hb)
   (try clear hb2)
   (try clear hk)
   (try clear hi)
   refine hK.out _ _ ⟨(blk_cell BK207.out 0).trans rfl, (blk_cell BK207.out 1).trans rfl, (blk_cell BK208.out 0).trans rfl, (blk_cell BK208.out 1).trans rfl, (blk_cell BK209.out 0).trans rfl, (blk_cell BK209.out 1).trans rfl, (blk_cell BK210.out 0).trans rfl, (blk_cell BK210.out 1).trans rfl⟩ (fun hHeld => ?_)
   clear hK K
   refine norm_ (a' := ?_) ?_ ?_
   rotate_left
   ·show Act.put _ (some 26) _ = _
    exact zs
   refine one_ (i := 21) (N := some 30) (zl 26 4194303) rfl rfl (one_of HT_.out (by kernel_rfl)) (by decide) (fun K hK => ?_)
   refine goes_ Tryd.func23 (by kernel_rfl) rfl #[.agg #[.int .i64 a2_0, .int .i64 a2_1], .agg #[.int .i64 a3_0, .int .i64 a3_1], .agg #[.int .i64 a1_0, .int .i64 a1_1]] (by rfl) rfl rfl zn ?_
   with_reducible refine (impl_turn.calls a2_0 a2_1 a3_0 a3_1 a1_0 a1_1 t217 _ A17.out).mono ?_
   rintro e w26 ⟨rfl, hb⟩
   refine ⟨_, rfl, ?_⟩
   have n0_ := Aside0.mk (blk_below (g := gb207) (o := .cells #[.int .i64 a0_0, .int .i64 a0_1] 33 (0, 0)) zk hb)
   have n1_ := Aside0.mk (blk_below (g := gb208) (o := .cells #[.int .i64 a1_0, .int .i64 a1_1] 33 (0, 0)) zk hb)
   have n2_ := Aside0.mk (blk_below (g := gb209) (o := .cells #[.int .i64 a2_0, .int .i64 a2_1] 33 (0, 0)) zk hb)
   have n3_ := Aside0.mk (blk_below (g := gb210) (o := .cells #[.int .i64 a3_0, .int .i64 a3_1] 33 (0, 0)) zk hb)
   have n4_ := Aside0.mk (below_step zb hb)
   clear BK207
   clear BK208
   clear BK209
   clear BK210
   clear HB
   have BK207 := n0_
   have BK208 := n1_
   have BK209 := n2_
   have BK210 := n3_
   have HB := n4_
   clear n0_ n1_ n2_ n3_ n4_
   (try clear hb)
   (try clear hb2)
   (try clear hk)
   (try clear hi)
   refine hK.out _ _ ⟨(blk_cell BK207.out 0).trans rfl, (blk_cell BK207.out 1).trans rfl, (blk_cell BK208.out 0).trans rfl, (blk_cell BK208.out 1).trans rfl, (blk_cell BK209.out 0).trans rfl, (blk_cell BK209.out 1).trans rfl, (blk_cell BK210.out 0).trans rfl, (blk_cell BK210.out 1).trans rfl⟩ (fun hHeld => ?_)
   clear hK K
   refine norm_ (a' := ?_) ?_ ?_
   rotate_left
   ·show Act.put _ (some 30) _ = _
    exact zs
   refine one_ (i := 22) (N := some 31) (zl 26 8388607) rfl rfl (one_of HT_.out (by kernel_rfl)) (by decide) (fun K hK => ?_)
   refine goes_ Tryd.func37 (by kernel_rfl) rfl #[.int .i64 t217] (by rfl) rfl rfl zn ?_
   with_reducible refine (impl_sign.calls t217 t218 _ A18.out).mono ?_
   rintro e w27 ⟨rfl, hb⟩
   refine ⟨_, rfl, ?_⟩
   have n0_ := Aside0.mk (blk_below (g := gb207) (o := .cells #[.int .i64 a0_0, .int .i64 a0_1] 33 (0, 0)) zk hb)
   have n1_ := Aside0.mk (blk_below (g := gb208) (o := .cells #[.int .i64 a1_0, .int .i64 a1_1] 33 (0, 0)) zk hb)
   have n2_ := Aside0.mk (blk_below (g := gb209) (o := .cells #[.int .i64 a2_0, .int .i64 a2_1] 33 (0, 0)) zk hb)
   have n3_ := Aside0.mk (blk_below (g := gb210) (o := .cells #[.int .i64 a3_0, .int .i64 a3_1] 33 (0, 0)) zk hb)
   have n4_ := Aside0.mk (below_step zb hb)
   clear BK207
   clear BK208
   clear BK209
   clear BK210
   clear HB
   have BK207 := n0_
   have BK208 := n1_
   have BK209 := n2_
   have BK210 := n3_
   have HB := n4_
   clear n0_ n1_ n2_ n3_ n4_
   (try clear hb)
   (try clear hb2)
   (try clear hk)
   (try clear hi)
   refine hK.out _ _ ⟨(blk_cell BK207.out 0).trans rfl, (blk_cell BK207.out 1).trans rfl, (blk_cell BK208.out 0).trans rfl, (blk_cell BK208.out 1).trans rfl, (blk_cell BK209.out 0).trans rfl, (blk_cell BK209.out 1).trans rfl, (blk_cell BK210.out 0).trans rfl, (blk_cell BK210.out 1).trans rfl⟩ (fun hHeld => ?_)
   clear hK K
   refine norm_ (a' := ?_) ?_ ?_
   rotate_left
   ·show Act.put _ (some 31) _ = _
    exact zs
   refine zp 23 32 26 16777215 HT_ ?_
   refine zp 24 33 26 33554431 HT_ ?_
   refine zp 25 34 26 67108863 HT_ ?_
   refine done_ (done_of HT_.out (by kernel_rfl)) ?_
   try go_wp2
   go_meet
   case rel => exact ⟨_, (decide ((wrap64 (t216 * t218)) < 0)), (by first | rfl | (simp; done) | (simp [*]; done)), H', ⟨by first | omega | exact Nat.le_refl _⟩, ⟨zk⟩, ⟨zk⟩, ⟨zk⟩, ⟨zk⟩, ⟨zb⟩⟩
  ·rw [if_neg c14] at H
   have c14b0 : decide ((wrap64 (t212 * t214)) < 0) = false := decide_eq_false c14
   clear c14
   (first | rw [c14b0] | (simp only [i64_w, i32_w]; rw [c14b0]) | skip)
   have H' := Aside0.mk H
   clear H
   try go_wp2
   have n0_ := Aside0.mk (blk_drew BK207.out)
   have n1_ := Aside0.mk (blk_drew BK208.out)
   have n2_ := Aside0.mk (blk_drew BK209.out)
   have n3_ := Aside0.mk (blk_drew BK210.out)
   have n4_ := Aside0.mk (below_drew1 HB.out)
   clear BK207
   clear BK208
   clear BK209
   clear BK210
   clear HB
   have BK207 := n0_
   have BK208 := n1_
   have BK209 := n2_
   have BK210 := n3_
   have HB := n4_
   clear n0_ n1_ n2_ n3_ n4_
   refine start_ (n := 26) (S := fun w' => w'.cell? ⟨gb207, 0, none⟩ = some (.int .i64 a0_0) ∧ w'.cell? ⟨gb207, 1, none⟩ = some (.int .i64 a0_1) ∧ w'.cell? ⟨gb208, 0, none⟩ = some (.int .i64 a1_0) ∧ w'.cell? ⟨gb208, 1, none⟩ = some (.int .i64 a1_1) ∧ w'.cell? ⟨gb209, 0, none⟩ = some (.int .i64 a2_0) ∧ w'.cell? ⟨gb209, 1, none⟩ = some (.int .i64 a2_1) ∧ w'.cell? ⟨gb210, 0, none⟩ = some (.int .i64 a3_0) ∧ w'.cell? ⟨gb210, 1, none⟩ = some (.int .i64 a3_1)) (ds := []) (zl 26 0) (by kernel_rfl) rfl rfl ⟨(blk_cell BK207.out 0).trans rfl, (blk_cell BK207.out 1).trans rfl, (blk_cell BK208.out 0).trans rfl, (blk_cell BK208.out 1).trans rfl, (blk_cell BK209.out 0).trans rfl, (blk_cell BK209.out 1).trans rfl, (blk_cell BK210.out 0).trans rfl, (blk_cell BK210.out 1).trans rfl⟩ (fun hHeld => ?_); refine with_tabW impl_meet.tab1 impl_meet.bits1 (fun HT_ HW_ => ?_)
   generalize w9.drew = w28 at BK207 BK208 BK209 BK210 HB hHeld ⊢
   refine take_ (i := 0) (N := some 9) (v := ?_) (a' := ?_) (zl 26 1) rfl rfl (take_ofW HT_.out HW_.out (by kernel_rfl)) (fun _ _ _ h => h) (Or.inl ⟨by rfl, ?_⟩) hHeld ?_ ?_
   rotate_left
   ·rintro w' ⟨s0, s1, s2, s3, s4, s5, s6, s7⟩
    go_simp
    with_reducible rfl
   rotate_left
   ·exact zs
   refine take_ (i := 1) (N := some 10) (v := ?_) (a' := ?_) (zl 26 3) rfl rfl (take_ofW HT_.out HW_.out (by kernel_rfl)) (fun _ _ _ h => h) (Or.inl ⟨by rfl, ?_⟩) hHeld ?_ ?_
   rotate_left
   ·rintro w' ⟨s0, s1, s2, s3, s4, s5, s6, s7⟩
    go_simp
    with_reducible rfl
   rotate_left
   ·exact zs
   refine take_ (i := 2) (N := some 11) (v := ?_) (a' := ?_) (zl 26 7) rfl rfl (take_ofW HT_.out HW_.out (by kernel_rfl)) (fun _ _ _ h => h) (Or.inl ⟨by rfl, ?_⟩) hHeld ?_ ?_
   rotate_left
   ·rintro w' ⟨s0, s1, s2, s3, s4, s5, s6, s7⟩
    go_simp
    with_reducible rfl
   rotate_left
   ·exact zs
   refine take_ (i := 5) (N := some 14) (v := ?_) (a' := ?_) (zl 26 39) rfl rfl (take_ofW HT_.out HW_.out (by kernel_rfl)) (fun _ _ _ h => h) (Or.inl ⟨by rfl, ?_⟩) hHeld ?_ ?_
   rotate_left
   ·rintro w' ⟨s0, s1, s2, s3, s4, s5, s6, s7⟩
    go_simp
    with_reducible rfl
   rotate_left
   ·exact zs
   refine take_ (i := 6) (N := some 15) (v := ?_) (a' := ?_) (zl 26 103) rfl rfl (take_ofW HT_.out HW_.out (by kernel_rfl)) (fun _ _ _ h => h) (Or.inl ⟨by rfl, ?_⟩) hHeld ?_ ?_
   rotate_left
   ·rintro w' ⟨s0, s1, s2, s3, s4, s5, s6, s7⟩
    go_simp
    with_reducible rfl
   rotate_left
   ·exact zs
   refine take_ (i := 7) (N := some 16) (v := ?_) (a' := ?_) (zl 26 231) rfl rfl (take_ofW HT_.out HW_.out (by kernel_rfl)) (fun _ _ _ h => h) (Or.inl ⟨by rfl, ?_⟩) hHeld ?_ ?_
   rotate_left
   ·rintro w' ⟨s0, s1, s2, s3, s4, s5, s6, s7⟩
    go_simp
    with_reducible rfl
   rotate_left
   ·exact zs
   refine one_ (i := 3) (N := some 12) (zl 26 239) rfl rfl (one_of HT_.out (by kernel_rfl)) (by decide) (fun K hK => ?_)
   refine goes_ Tryd.func23 (by kernel_rfl) rfl #[.agg #[.int .i64 a0_0, .int .i64 a0_1], .agg #[.int .i64 a1_0, .int .i64 a1_1], .agg #[.int .i64 a2_0, .int .i64 a2_1]] (by rfl) rfl rfl zn ?_
   with_reducible refine (impl_turn.calls a0_0 a0_1 a1_0 a1_1 a2_0 a2_1 t211 _ A10.out).mono ?_
   rintro e w29 ⟨rfl, hb⟩
   refine ⟨_, rfl, ?_⟩
   have n0_ := Aside0.mk (blk_below (g := gb207) (o := .cells #[.int .i64 a0_0, .int .i64 a0_1] 33 (0, 0)) zk hb)
   have n1_ := Aside0.mk (blk_below (g := gb208) (o := .cells #[.int .i64 a1_0, .int .i64 a1_1] 33 (0, 0)) zk hb)
   have n2_ := Aside0.mk (blk_below (g := gb209) (o := .cells #[.int .i64 a2_0, .int .i64 a2_1] 33 (0, 0)) zk hb)
   have n3_ := Aside0.mk (blk_below (g := gb210) (o := .cells #[.int .i64 a3_0, .int .i64 a3_1] 33 (0, 0)) zk hb)
   have n4_ := Aside0.mk (below_step zb hb)
   clear BK207
   clear BK208
   clear BK209
   clear BK210
   clear HB
   have BK207 := n0_
   have BK208 := n1_
   have BK209 := n2_
   have BK210 := n3_
   have HB := n4_
   clear n0_ n1_ n2_ n3_ n4_
   (try clear hb)
   (try clear hb2)
   (try clear hk)
   (try clear hi)
   refine hK.out _ _ ⟨(blk_cell BK207.out 0).trans rfl, (blk_cell BK207.out 1).trans rfl, (blk_cell BK208.out 0).trans rfl, (blk_cell BK208.out 1).trans rfl, (blk_cell BK209.out 0).trans rfl, (blk_cell BK209.out 1).trans rfl, (blk_cell BK210.out 0).trans rfl, (blk_cell BK210.out 1).trans rfl⟩ (fun hHeld => ?_)
   clear hK K
   refine norm_ (a' := ?_) ?_ ?_
   rotate_left
   ·show Act.put _ (some 12) _ = _
    exact zs
   refine one_ (i := 4) (N := some 13) (zl 26 255) rfl rfl (one_of HT_.out (by kernel_rfl)) (by decide) (fun K hK => ?_)
   refine goes_ Tryd.func37 (by kernel_rfl) rfl #[.int .i64 t211] (by rfl) rfl rfl zn ?_
   with_reducible refine (impl_sign.calls t211 t212 _ A11.out).mono ?_
   rintro e w30 ⟨rfl, hb⟩
   refine ⟨_, rfl, ?_⟩
   have n0_ := Aside0.mk (blk_below (g := gb207) (o := .cells #[.int .i64 a0_0, .int .i64 a0_1] 33 (0, 0)) zk hb)
   have n1_ := Aside0.mk (blk_below (g := gb208) (o := .cells #[.int .i64 a1_0, .int .i64 a1_1] 33 (0, 0)) zk hb)
   have n2_ := Aside0.mk (blk_below (g := gb209) (o := .cells #[.int .i64 a2_0, .int .i64 a2_1] 33 (0, 0)) zk hb)
   have n3_ := Aside0.mk (blk_below (g := gb210) (o := .cells #[.int .i64 a3_0, .int .i64 a3_1] 33 (0, 0)) zk hb)
   have n4_ := Aside0.mk (below_step zb hb)
   clear BK207
   clear BK208
   clear BK209
   clear BK210
   clear HB
   have BK207 := n0_
   have BK208 := n1_
   have BK209 := n2_
   have BK210 := n3_
   have HB := n4_
   clear n0_ n1_ n2_ n3_ n4_
   (try clear hb)
   (try clear hb2)
   (try clear hk)
   (try clear hi)
   refine hK.out _ _ ⟨(blk_cell BK207.out 0).trans rfl, (blk_cell BK207.out 1).trans rfl, (blk_cell BK208.out 0).trans rfl, (blk_cell BK208.out 1).trans rfl, (blk_cell BK209.out 0).trans rfl, (blk_cell BK209.out 1).trans rfl, (blk_cell BK210.out 0).trans rfl, (blk_cell BK210.out 1).trans rfl⟩ (fun hHeld => ?_)
   clear hK K
   refine norm_ (a' := ?_) ?_ ?_
   rotate_left
   ·show Act.put _ (some 13) _ = _
    exact zs
   refine one_ (i := 8) (N := some 17) (zl 26 511) rfl rfl (one_of HT_.out (by kernel_rfl)) (by decide) (fun K hK => ?_)
   refine goes_ Tryd.func23 (by kernel_rfl) rfl #[.agg #[.int .i64 a0_0, .int .i64 a0_1], .agg #[.int .i64 a1_0, .int .i64 a1_1], .agg #[.int .i64 a3_0, .int .i64 a3_1]] (by rfl) rfl rfl zn ?_
   with_reducible refine (impl_turn.calls a0_0 a0_1 a1_0 a1_1 a3_0 a3_1 t213 _ A12.out).mono ?_
   rintro e w31 ⟨rfl, hb⟩
   refine ⟨_, rfl, ?_⟩
   have n0_ := Aside0.mk (blk_below (g := gb207) (o := .cells #[.int .i64 a0_0, .int .i64 a0_1] 33 (0, 0)) zk hb)
   have n1_ := Aside0.mk (blk_below (g := gb208) (o := .cells #[.int .i64 a1_0, .int .i64 a1_1] 33 (0, 0)) zk hb)
   have n2_ := Aside0.mk (blk_below (g := gb209) (o := .cells #[.int .i64 a2_0, .int .i64 a2_1] 33 (0, 0)) zk hb)
   have n3_ := Aside0.mk (blk_below (g := gb210) (o := .cells #[.int .i64 a3_0, .int .i64 a3_1] 33 (0, 0)) zk hb)
   have n4_ := Aside0.mk (below_step zb hb)
   clear BK207
   clear BK208
   clear BK209
   clear BK210
   clear HB
   have BK207 := n0_
   have BK208 := n1_
   have BK209 := n2_
   have BK210 := n3_
   have HB := n4_
   clear n0_ n1_ n2_ n3_ n4_
   (try clear hb)
   (try clear hb2)
   (try clear hk)
   (try clear hi)
   refine hK.out _ _ ⟨(blk_cell BK207.out 0).trans rfl, (blk_cell BK207.out 1).trans rfl, (blk_cell BK208.out 0).trans rfl, (blk_cell BK208.out 1).trans rfl, (blk_cell BK209.out 0).trans rfl, (blk_cell BK209.out 1).trans rfl, (blk_cell BK210.out 0).trans rfl, (blk_cell BK210.out 1).trans rfl⟩ (fun hHeld => ?_)
   clear hK K
   refine norm_ (a' := ?_) ?_ ?_
   rotate_left
   ·show Act.put _ (some 17) _ = _
    exact zs
   refine one_ (i := 9) (N := some 18) (zl 26 1023) rfl rfl (one_of HT_.out (by kernel_rfl)) (by decide) (fun K hK => ?_)
   refine goes_ Tryd.func37 (by kernel_rfl) rfl #[.int .i64 t213] (by rfl) rfl rfl zn ?_
   with_reducible refine (impl_sign.calls t213 t214 _ A13.out).mono ?_
   rintro e w32 ⟨rfl, hb⟩
   refine ⟨_, rfl, ?_⟩
   have n0_ := Aside0.mk (blk_below (g := gb207) (o := .cells #[.int .i64 a0_0, .int .i64 a0_1] 33 (0, 0)) zk hb)
   have n1_ := Aside0.mk (blk_below (g := gb208) (o := .cells #[.int .i64 a1_0, .int .i64 a1_1] 33 (0, 0)) zk hb)
   have n2_ := Aside0.mk (blk_below (g := gb209) (o := .cells #[.int .i64 a2_0, .int .i64 a2_1] 33 (0, 0)) zk hb)
   have n3_ := Aside0.mk (blk_below (g := gb210) (o := .cells #[.int .i64 a3_0, .int .i64 a3_1] 33 (0, 0)) zk hb)
   have n4_ := Aside0.mk (below_step zb hb)
   clear BK207
   clear BK208
   clear BK209
   clear BK210
   clear HB
   have BK207 := n0_
   have BK208 := n1_
   have BK209 := n2_
   have BK210 := n3_
   have HB := n4_
   clear n0_ n1_ n2_ n3_ n4_
   (try clear hb)
   (try clear hb2)
   (try clear hk)
   (try clear hi)
   refine hK.out _ _ ⟨(blk_cell BK207.out 0).trans rfl, (blk_cell BK207.out 1).trans rfl, (blk_cell BK208.out 0).trans rfl, (blk_cell BK208.out 1).trans rfl, (blk_cell BK209.out 0).trans rfl, (blk_cell BK209.out 1).trans rfl, (blk_cell BK210.out 0).trans rfl, (blk_cell BK210.out 1).trans rfl⟩ (fun hHeld => ?_)
   clear hK K
   refine norm_ (a' := ?_) ?_ ?_
   rotate_left
   ·show Act.put _ (some 18) _ = _
    exact zs
   refine zp 10 19 26 2047 HT_ ?_
   refine zp 11 20 26 4095 HT_ ?_
   refine zp 12 21 26 8191 HT_ ?_
   refine pure_ (i := 13) (N := some 22) (v := undef) (a' := ?_) (zl 26 16383) rfl rfl (any_of HT_.out (by kernel_rfl)) (fun _ _ _ h => h) (Or.inr ⟨by rfl, rfl⟩) ?_ ?_
   rotate_left
   ·exact zs
   refine pure_ (i := 14) (N := some 23) (v := undef) (a' := ?_) (zl 26 32767) rfl rfl (any_of HT_.out (by kernel_rfl)) (fun _ _ _ h => h) (Or.inr ⟨by rfl, rfl⟩) ?_ ?_
   rotate_left
   ·exact zs
   refine pure_ (i := 15) (N := some 24) (v := undef) (a' := ?_) (zl 26 65535) rfl rfl (any_of HT_.out (by kernel_rfl)) (fun _ _ _ h => h) (Or.inr ⟨by rfl, rfl⟩) ?_ ?_
   rotate_left
   ·exact zs
   refine pure_ (i := 16) (N := some 25) (v := undef) (a' := ?_) (zl 26 131071) rfl rfl (any_of HT_.out (by kernel_rfl)) (fun _ _ _ h => h) (Or.inr ⟨by rfl, rfl⟩) ?_ ?_
   rotate_left
   ·exact zs
   refine pure_ (i := 17) (N := some 26) (v := undef) (a' := ?_) (zl 26 262143) rfl rfl (any_of HT_.out (by kernel_rfl)) (fun _ _ _ h => h) (Or.inr ⟨by rfl, rfl⟩) ?_ ?_
   rotate_left
   ·exact zs
   refine pure_ (i := 18) (N := some 27) (v := undef) (a' := ?_) (zl 26 524287) rfl rfl (any_of HT_.out (by kernel_rfl)) (fun _ _ _ h => h) (Or.inr ⟨by rfl, rfl⟩) ?_ ?_
   rotate_left
   ·exact zs
   refine pure_ (i := 19) (N := some 28) (v := undef) (a' := ?_) (zl 26 1048575) rfl rfl (any_of HT_.out (by kernel_rfl)) (fun _ _ _ h => h) (Or.inr ⟨by rfl, rfl⟩) ?_ ?_
   rotate_left
   ·exact zs
   refine pure_ (i := 20) (N := some 29) (v := undef) (a' := ?_) (zl 26 2097151) rfl rfl (any_of HT_.out (by kernel_rfl)) (fun _ _ _ h => h) (Or.inr ⟨by rfl, rfl⟩) ?_ ?_
   rotate_left
   ·exact zs
   refine pure_ (i := 21) (N := some 30) (v := undef) (a' := ?_) (zl 26 4194303) rfl rfl (any_of HT_.out (by kernel_rfl)) (fun _ _ _ h => h) (Or.inr ⟨by rfl, rfl⟩) ?_ ?_
   rotate_left
   ·exact zs
   refine pure_ (i := 22) (N := some 31) (v := undef) (a' := ?_) (zl 26 8388607) rfl rfl (any_of HT_.out (by kernel_rfl)) (fun _ _ _ h => h) (Or.inr ⟨by rfl, rfl⟩) ?_ ?_
   rotate_left
   ·exact zs
   refine pure_ (i := 23) (N := some 32) (v := undef) (a' := ?_) (zl 26 16777215) rfl rfl (any_of HT_.out (by kernel_rfl)) (fun _ _ _ h => h) (Or.inr ⟨by rfl, rfl⟩) ?_ ?_
   rotate_left
   ·exact zs
   refine pure_ (i := 24) (N := some 33) (v := undef) (a' := ?_) (zl 26 33554431) rfl rfl (any_of HT_.out (by kernel_rfl)) (fun _ _ _ h => h) (Or.inr ⟨by rfl, rfl⟩) ?_ ?_
   rotate_left
   ·exact zs
   refine zp 25 34 26 67108863 HT_ ?_
   refine done_ (done_of HT_.out (by kernel_rfl)) ?_
   try go_wp2
   go_meet
   case rel => exact ⟨_, (false), (by first | rfl | (simp; done) | (simp [*]; done)), H', ⟨by first | omega | exact Nat.le_refl _⟩, ⟨zk⟩, ⟨zk⟩, ⟨zk⟩, ⟨zk⟩, ⟨zb⟩⟩
 case rest =>
  clear HC5
  try clear c1
  try clear c2
  try clear p2
  try clear c3
  try clear p6
  try clear c14
  try clear c14b0
  try clear c23
  obtain ⟨kq, x34_4, rfl, HA, HJ4, BK207, BK208, BK209, BK210, HB⟩ := hcut
  cases kq with
  | zero => exact absurd HA.out (by simp [impl_meet.j0])
  | succ kj4 =>
   have H := HA.out
   clear HA
   simp only [impl_meet.j0] at H
   by_cases c33 : x34_4 = true
   ·subst c33
    have H1 : (some true) = some r := by rw [if_pos rfl] at H; exact H
    clear H
    have H := H1
    clear H1
    obtain rfl := Option.some.inj H
    go_wp2
    go_ret
    exact ⟨by first | rfl | (simp [errW_none, errW_some] <;> rfl) | (simp [*, errW_none, errW_some] <;> rfl), zb⟩
   ·replace c33 := Bool.eq_false_iff.mpr c33
    subst c33
    have H1 : ((impl_isOn.f a0_0 a0_1 a1_0 a1_1 a2_0 a2_1).bind fun t219 => (if t219 = true then (some true) else ((impl_isOn.f a0_0 a0_1 a1_0 a1_1 a3_0 a3_1).bind fun t220 => (if t220 = true then (some true) else ((impl_isOn.f a2_0 a2_1 a3_0 a3_1 a0_0 a0_1).bind fun t221 => (if t221 = true then (some true) else ((impl_isOn.f a2_0 a2_1 a3_0 a3_1 a1_0 a1_1).bind fun t222 => (some t222)))))))) = some r := by rw [if_neg (show ¬ (false = true) by decide)] at H; exact H
    clear H
    have H := H1
    clear H1
    replace H := Option.bind_eq_some_iff.mp H
    obtain ⟨t219, A340, H⟩ := H
    replace H : (if t219 = true then (some true) else ((impl_isOn.f a0_0 a0_1 a1_0 a1_1 a3_0 a3_1).bind fun t220 => (if t220 = true then (some true) else ((impl_isOn.f a2_0 a2_1 a3_0 a3_1 a0_0 a0_1).bind fun t221 => (if t221 = true then (some true) else ((impl_isOn.f a2_0 a2_1 a3_0 a3_1 a1_0 a1_1).bind fun t222 => (some t222))))))) = some r := H
    have A34 := Aside0.mk A340
    clear A340
    by_cases c35 : t219 = true
    ·subst c35
     have H1 : (some true) = some r := by rw [if_pos rfl] at H; exact H
     clear H
     have H := H1
     clear H1
     obtain rfl := Option.some.inj H
     have hnb36 := NB207_208.out
     have hnc36 := NB208_207.out
     have hnb37 := NB207_209.out
     have hnc37 := NB209_207.out
     have hnb38 := NB207_210.out
     have hnc38 := NB210_207.out
     have hcz39_0 : wc.cell? ⟨gb207, 0, none⟩ = some (.int .i64 a0_0) := (blk_cell BK207.out 0).trans rfl
     have hcz39_1 : wc.cell? ⟨gb207, 1, none⟩ = some (.int .i64 a0_1) := (blk_cell BK207.out 1).trans rfl
     have hfz39_0 := blk_frozen BK207.out 0
     have hfz39_1 := blk_frozen BK207.out 1
     have hnb40 := NB208_209.out
     have hnc40 := NB209_208.out
     have hnb41 := NB208_210.out
     have hnc41 := NB210_208.out
     have hcz42_0 : wc.cell? ⟨gb208, 0, none⟩ = some (.int .i64 a1_0) := (blk_cell BK208.out 0).trans rfl
     have hcz42_1 : wc.cell? ⟨gb208, 1, none⟩ = some (.int .i64 a1_1) := (blk_cell BK208.out 1).trans rfl
     have hfz42_0 := blk_frozen BK208.out 0
     have hfz42_1 := blk_frozen BK208.out 1
     have hnb43 := NB209_210.out
     have hnc43 := NB210_209.out
     have hcz44_0 : wc.cell? ⟨gb209, 0, none⟩ = some (.int .i64 a2_0) := (blk_cell BK209.out 0).trans rfl
     have hcz44_1 : wc.cell? ⟨gb209, 1, none⟩ = some (.int .i64 a2_1) := (blk_cell BK209.out 1).trans rfl
     have hfz44_0 := blk_frozen BK209.out 0
     have hfz44_1 := blk_frozen BK209.out 1
     go_wp2_with (first | ((with_reducible refine gate_callee (f := 38) rfl ?_); refine goesL_ (some 38) rfl rfl Tryd.func38 (by kernel_rfl) rfl #[.agg #[.int .i64 a0_0, .int .i64 a0_1], .agg #[.int .i64 a1_0, .int .i64 a1_1], .agg #[.int .i64 a2_0, .int .i64 a2_1]] rfl zn ?_; (with_reducible refine (impl_isOn.calls a0_0 a0_1 a1_0 a1_1 a2_0 a2_1 true _ A34.out).mono ?_); rintro e w45 ⟨rfl, hb⟩; refine ⟨_, rfl, ?_⟩; have n0_ := Aside0.mk (blk_below (g := gb207) (o := .cells #[.int .i64 a0_0, .int .i64 a0_1] 33 (0, 0)) zk hb); have n1_ := Aside0.mk (blk_below (g := gb208) (o := .cells #[.int .i64 a1_0, .int .i64 a1_1] 33 (0, 0)) zk hb); have n2_ := Aside0.mk (blk_below (g := gb209) (o := .cells #[.int .i64 a2_0, .int .i64 a2_1] 33 (0, 0)) zk hb); have n3_ := Aside0.mk (blk_below (g := gb210) (o := .cells #[.int .i64 a3_0, .int .i64 a3_1] 33 (0, 0)) zk hb); have n4_ := Aside0.mk (below_step zb hb); clear BK207; clear BK208; clear BK209; clear BK210; clear HB; have BK207 := n0_; have BK208 := n1_; have BK209 := n2_; have BK210 := n3_; have HB := n4_; clear n0_ n1_ n2_ n3_ n4_; (try clear hb); (try clear hb2); (try clear hk); (try clear hi)))
     go_ret
     exact ⟨by first | rfl | (simp [errW_none, errW_some] <;> rfl) | (simp [*, errW_none, errW_some] <;> rfl), zb⟩
    ·replace c35 := Bool.eq_false_iff.mpr c35
     subst c35
     have H1 : ((impl_isOn.f a0_0 a0_1 a1_0 a1_1 a3_0 a3_1).bind fun t220 => (if t220 = true then (some true) else ((impl_isOn.f a2_0 a2_1 a3_0 a3_1 a0_0 a0_1).bind fun t221 => (if t221 = true then (some true) else ((impl_isOn.f a2_0 a2_1 a3_0 a3_1 a1_0 a1_1).bind fun t222 => (some t222)))))) = some r := by rw [if_neg (show ¬ (false = true) by decide)] at H; exact H
     clear H
     have H := H1
     clear H1
     replace H := Option.bind_eq_some_iff.mp H
     obtain ⟨t220, A460, H⟩ := H
     replace H : (if t220 = true then (some true) else ((impl_isOn.f a2_0 a2_1 a3_0 a3_1 a0_0 a0_1).bind fun t221 => (if t221 = true then (some true) else ((impl_isOn.f a2_0 a2_1 a3_0 a3_1 a1_0 a1_1).bind fun t222 => (some t222))))) = some r := H
     have A46 := Aside0.mk A460
     clear A460
     by_cases c47 : t220 = true
     ·subst c47
      have H1 : (some true) = some r := by rw [if_pos rfl] at H; exact H
      clear H
      have H := H1
      clear H1
      obtain rfl := Option.some.inj H
      have hnb48 := NB207_208.out
      have hnc48 := NB208_207.out
      have hnb49 := NB207_209.out
      have hnc49 := NB209_207.out
      have hnb50 := NB207_210.out
      have hnc50 := NB210_207.out
      have hcz51_0 : wc.cell? ⟨gb207, 0, none⟩ = some (.int .i64 a0_0) := (blk_cell BK207.out 0).trans rfl
      have hcz51_1 : wc.cell? ⟨gb207, 1, none⟩ = some (.int .i64 a0_1) := (blk_cell BK207.out 1).trans rfl
      have hfz51_0 := blk_frozen BK207.out 0
      have hfz51_1 := blk_frozen BK207.out 1
      have hnb52 := NB208_209.out
      have hnc52 := NB209_208.out
      have hnb53 := NB208_210.out
      have hnc53 := NB210_208.out
      have hcz54_0 : wc.cell? ⟨gb208, 0, none⟩ = some (.int .i64 a1_0) := (blk_cell BK208.out 0).trans rfl
      have hcz54_1 : wc.cell? ⟨gb208, 1, none⟩ = some (.int .i64 a1_1) := (blk_cell BK208.out 1).trans rfl
      have hfz54_0 := blk_frozen BK208.out 0
      have hfz54_1 := blk_frozen BK208.out 1
      have hnb55 := NB209_210.out
      have hnc55 := NB210_209.out
      have hcz56_0 : wc.cell? ⟨gb209, 0, none⟩ = some (.int .i64 a2_0) := (blk_cell BK209.out 0).trans rfl
      have hcz56_1 : wc.cell? ⟨gb209, 1, none⟩ = some (.int .i64 a2_1) := (blk_cell BK209.out 1).trans rfl
      have hfz56_0 := blk_frozen BK209.out 0
      have hfz56_1 := blk_frozen BK209.out 1
      go_wp2_with (first | ((with_reducible refine gate_callee (f := 38) rfl ?_); refine goesL_ (some 38) rfl rfl Tryd.func38 (by kernel_rfl) rfl #[.agg #[.int .i64 a0_0, .int .i64 a0_1], .agg #[.int .i64 a1_0, .int .i64 a1_1], .agg #[.int .i64 a2_0, .int .i64 a2_1]] rfl zn ?_; (with_reducible refine (impl_isOn.calls a0_0 a0_1 a1_0 a1_1 a2_0 a2_1 false _ A34.out).mono ?_); rintro e w57 ⟨rfl, hb⟩; refine ⟨_, rfl, ?_⟩; have n0_ := Aside0.mk (blk_below (g := gb207) (o := .cells #[.int .i64 a0_0, .int .i64 a0_1] 33 (0, 0)) zk hb); have n1_ := Aside0.mk (blk_below (g := gb208) (o := .cells #[.int .i64 a1_0, .int .i64 a1_1] 33 (0, 0)) zk hb); have n2_ := Aside0.mk (blk_below (g := gb209) (o := .cells #[.int .i64 a2_0, .int .i64 a2_1] 33 (0, 0)) zk hb); have n3_ := Aside0.mk (blk_below (g := gb210) (o := .cells #[.int .i64 a3_0, .int .i64 a3_1] 33 (0, 0)) zk hb); have n4_ := Aside0.mk (below_step zb hb); clear BK207; clear BK208; clear BK209; clear BK210; clear HB; have BK207 := n0_; have BK208 := n1_; have BK209 := n2_; have BK210 := n3_; have HB := n4_; clear n0_ n1_ n2_ n3_ n4_; (try clear hb); (try clear hb2); (try clear hk); (try clear hi); have hcz58_0 : w57.cell? ⟨gb207, 0, none⟩ = some (.int .i64 a0_0) := (blk_cell BK207.out 0).trans rfl; have hcz58_1 : w57.cell? ⟨gb207, 1, none⟩ = some (.int .i64 a0_1) := (blk_cell BK207.out 1).trans rfl; have hfz58_0 := blk_frozen BK207.out 0; have hfz58_1 := blk_frozen BK207.out 1; have hcz59_0 : w57.cell? ⟨gb208, 0, none⟩ = some (.int .i64 a1_0) := (blk_cell BK208.out 0).trans rfl; have hcz59_1 : w57.cell? ⟨gb208, 1, none⟩ = some (.int .i64 a1_1) := (blk_cell BK208.out 1).trans rfl; have hfz59_0 := blk_frozen BK208.out 0; have hfz59_1 := blk_frozen BK208.out 1; have hcz60_0 : w57.cell? ⟨gb210, 0, none⟩ = some (.int .i64 a3_0) := (blk_cell BK210.out 0).trans rfl; have hcz60_1 : w57.cell? ⟨gb210, 1, none⟩ = some (.int .i64 a3_1) := (blk_cell BK210.out 1).trans rfl; have hfz60_0 := blk_frozen BK210.out 0; have hfz60_1 := blk_frozen BK210.out 1) | (go_at_call 38; (with_reducible refine (impl_isOn.calls a0_0 a0_1 a1_0 a1_1 a3_0 a3_1 true _ A46.out).mono ?_); rintro e w61 ⟨rfl, hb⟩; have n0_ := Aside0.mk (blk_below (g := gb207) (o := .cells #[.int .i64 a0_0, .int .i64 a0_1] 33 (0, 0)) zk hb); have n1_ := Aside0.mk (blk_below (g := gb208) (o := .cells #[.int .i64 a1_0, .int .i64 a1_1] 33 (0, 0)) zk hb); have n2_ := Aside0.mk (blk_below (g := gb209) (o := .cells #[.int .i64 a2_0, .int .i64 a2_1] 33 (0, 0)) zk hb); have n3_ := Aside0.mk (blk_below (g := gb210) (o := .cells #[.int .i64 a3_0, .int .i64 a3_1] 33 (0, 0)) zk hb); have n4_ := Aside0.mk (below_step zb hb); clear BK207; clear BK208; clear BK209; clear BK210; clear HB; have BK207 := n0_; have BK208 := n1_; have BK209 := n2_; have BK210 := n3_; have HB := n4_; clear n0_ n1_ n2_ n3_ n4_; (try clear hb); (try clear hb2); (try clear hk); (try clear hi)))
      go_ret
      exact ⟨by first | rfl | (simp [errW_none, errW_some] <;> rfl) | (simp [*, errW_none, errW_some] <;> rfl), zb⟩
     ·replace c47 := Bool.eq_false_iff.mpr c47
      subst c47
      have H1 : ((impl_isOn.f a2_0 a2_1 a3_0 a3_1 a0_0 a0_1).bind fun t221 => (if t221 = true then (some true) else ((impl_isOn.f a2_0 a2_1 a3_0 a3_1 a1_0 a1_1).bind fun t222 => (some t222)))) = some r := by rw [if_neg (show ¬ (false = true) by decide)] at H; exact H
      clear H
      have H := H1
      clear H1
      replace H := Option.bind_eq_some_iff.mp H
      obtain ⟨t221, A620, H⟩ := H
      replace H : (if t221 = true then (some true) else ((impl_isOn.f a2_0 a2_1 a3_0 a3_1 a1_0 a1_1).bind fun t222 => (some t222))) = some r := H
      have A62 := Aside0.mk A620
      clear A620
      by_cases c63 : t221 = true
      ·subst c63
       have H1 : (some true) = some r := by rw [if_pos rfl] at H; exact H
       clear H
       have H := H1
       clear H1
       obtain rfl := Option.some.inj H
       have hnb64 := NB207_208.out
       have hnc64 := NB208_207.out
       have hnb65 := NB207_209.out
       have hnc65 := NB209_207.out
       have hnb66 := NB207_210.out
       have hnc66 := NB210_207.out
       have hcz67_0 : wc.cell? ⟨gb207, 0, none⟩ = some (.int .i64 a0_0) := (blk_cell BK207.out 0).trans rfl
       have hcz67_1 : wc.cell? ⟨gb207, 1, none⟩ = some (.int .i64 a0_1) := (blk_cell BK207.out 1).trans rfl
       have hfz67_0 := blk_frozen BK207.out 0
       have hfz67_1 := blk_frozen BK207.out 1
       have hnb68 := NB208_209.out
       have hnc68 := NB209_208.out
       have hnb69 := NB208_210.out
       have hnc69 := NB210_208.out
       have hcz70_0 : wc.cell? ⟨gb208, 0, none⟩ = some (.int .i64 a1_0) := (blk_cell BK208.out 0).trans rfl
       have hcz70_1 : wc.cell? ⟨gb208, 1, none⟩ = some (.int .i64 a1_1) := (blk_cell BK208.out 1).trans rfl
       have hfz70_0 := blk_frozen BK208.out 0
       have hfz70_1 := blk_frozen BK208.out 1
       have hnb71 := NB209_210.out
       have hnc71 := NB210_209.out
       have hcz72_0 : wc.cell? ⟨gb209, 0, none⟩ = some (.int .i64 a2_0) := (blk_cell BK209.out 0).trans rfl
       have hcz72_1 : wc.cell? ⟨gb209, 1, none⟩ = some (.int .i64 a2_1) := (blk_cell BK209.out 1).trans rfl
       have hfz72_0 := blk_frozen BK209.out 0
       have hfz72_1 := blk_frozen BK209.out 1
       go_wp2_with (first | ((with_reducible refine gate_callee (f := 38) rfl ?_); refine goesL_ (some 38) rfl rfl Tryd.func38 (by kernel_rfl) rfl #[.agg #[.int .i64 a0_0, .int .i64 a0_1], .agg #[.int .i64 a1_0, .int .i64 a1_1], .agg #[.int .i64 a2_0, .int .i64 a2_1]] rfl zn ?_; (with_reducible refine (impl_isOn.calls a0_0 a0_1 a1_0 a1_1 a2_0 a2_1 false _ A34.out).mono ?_); rintro e w73 ⟨rfl, hb⟩; refine ⟨_, rfl, ?_⟩; have n0_ := Aside0.mk (blk_below (g := gb207) (o := .cells #[.int .i64 a0_0, .int .i64 a0_1] 33 (0, 0)) zk hb); have n1_ := Aside0.mk (blk_below (g := gb208) (o := .cells #[.int .i64 a1_0, .int .i64 a1_1] 33 (0, 0)) zk hb); have n2_ := Aside0.mk (blk_below (g := gb209) (o := .cells #[.int .i64 a2_0, .int .i64 a2_1] 33 (0, 0)) zk hb); have n3_ := Aside0.mk (blk_below (g := gb210) (o := .cells #[.int .i64 a3_0, .int .i64 a3_1] 33 (0, 0)) zk hb); have n4_ := Aside0.mk (below_step zb hb); clear BK207; clear BK208; clear BK209; clear BK210; clear HB; have BK207 := n0_; have BK208 := n1_; have BK209 := n2_; have BK210 := n3_; have HB := n4_; clear n0_ n1_ n2_ n3_ n4_; (try clear hb); (try clear hb2); (try clear hk); (try clear hi); have hcz74_0 : w73.cell? ⟨gb207, 0, none⟩ = some (.int .i64 a0_0) := (blk_cell BK207.out 0).trans rfl; have hcz74_1 : w73.cell? ⟨gb207, 1, none⟩ = some (.int .i64 a0_1) := (blk_cell BK207.out 1).trans rfl; have hfz74_0 := blk_frozen BK207.out 0; have hfz74_1 := blk_frozen BK207.out 1; have hcz75_0 : w73.cell? ⟨gb208, 0, none⟩ = some (.int .i64 a1_0) := (blk_cell BK208.out 0).trans rfl; have hcz75_1 : w73.cell? ⟨gb208, 1, none⟩ = some (.int .i64 a1_1) := (blk_cell BK208.out 1).trans rfl; have hfz75_0 := blk_frozen BK208.out 0; have hfz75_1 := blk_frozen BK208.out 1; have hcz76_0 : w73.cell? ⟨gb210, 0, none⟩ = some (.int .i64 a3_0) := (blk_cell BK210.out 0).trans rfl; have hcz76_1 : w73.cell? ⟨gb210, 1, none⟩ = some (.int .i64 a3_1) := (blk_cell BK210.out 1).trans rfl; have hfz76_0 := blk_frozen BK210.out 0; have hfz76_1 := blk_frozen BK210.out 1) | (go_at_call 38; (with_reducible refine (impl_isOn.calls a0_0 a0_1 a1_0 a1_1 a3_0 a3_1 false _ A46.out).mono ?_); rintro e w77 ⟨rfl, hb⟩; have n0_ := Aside0.mk (blk_below (g := gb207) (o := .cells #[.int .i64 a0_0, .int .i64 a0_1] 33 (0, 0)) zk hb); have n1_ := Aside0.mk (blk_below (g := gb208) (o := .cells #[.int .i64 a1_0, .int .i64 a1_1] 33 (0, 0)) zk hb); have n2_ := Aside0.mk (blk_below (g := gb209) (o := .cells #[.int .i64 a2_0, .int .i64 a2_1] 33 (0, 0)) zk hb); have n3_ := Aside0.mk (blk_below (g := gb210) (o := .cells #[.int .i64 a3_0, .int .i64 a3_1] 33 (0, 0)) zk hb); have n4_ := Aside0.mk (below_step zb hb); clear BK207; clear BK208; clear BK209; clear BK210; clear HB; have BK207 := n0_; have BK208 := n1_; have BK209 := n2_; have BK210 := n3_; have HB := n4_; clear n0_ n1_ n2_ n3_ n4_; (try clear hb); (try clear hb2); (try clear hk); (try clear hi); have hcz78_0 : w77.cell? ⟨gb209, 0, none⟩ = some (.int .i64 a2_0) := (blk_cell BK209.out 0).trans rfl; have hcz78_1 : w77.cell? ⟨gb209, 1, none⟩ = some (.int .i64 a2_1) := (blk_cell BK209.out 1).trans rfl; have hfz78_0 := blk_frozen BK209.out 0; have hfz78_1 := blk_frozen BK209.out 1; have hcz79_0 : w77.cell? ⟨gb210, 0, none⟩ = some (.int .i64 a3_0) := (blk_cell BK210.out 0).trans rfl; have hcz79_1 : w77.cell? ⟨gb210, 1, none⟩ = some (.int .i64 a3_1) := (blk_cell BK210.out 1).trans rfl; have hfz79_0 := blk_frozen BK210.out 0; have hfz79_1 := blk_frozen BK210.out 1; have hcz80_0 : w77.cell? ⟨gb207, 0, none⟩ = some (.int .i64 a0_0) := (blk_cell BK207.out 0).trans rfl; have hcz80_1 : w77.cell? ⟨gb207, 1, none⟩ = some (.int .i64 a0_1) := (blk_cell BK207.out 1).trans rfl; have hfz80_0 := blk_frozen BK207.out 0; have hfz80_1 := blk_frozen BK207.out 1) | (go_at_call 38; (with_reducible refine (impl_isOn.calls a2_0 a2_1 a3_0 a3_1 a0_0 a0_1 true _ A62.out).mono ?_); rintro e w81 ⟨rfl, hb⟩; have n0_ := Aside0.mk (blk_below (g := gb207) (o := .cells #[.int .i64 a0_0, .int .i64 a0_1] 33 (0, 0)) zk hb); have n1_ := Aside0.mk (blk_below (g := gb208) (o := .cells #[.int .i64 a1_0, .int .i64 a1_1] 33 (0, 0)) zk hb); have n2_ := Aside0.mk (blk_below (g := gb209) (o := .cells #[.int .i64 a2_0, .int .i64 a2_1] 33 (0, 0)) zk hb); have n3_ := Aside0.mk (blk_below (g := gb210) (o := .cells #[.int .i64 a3_0, .int .i64 a3_1] 33 (0, 0)) zk hb); have n4_ := Aside0.mk (below_step zb hb); clear BK207; clear BK208; clear BK209; clear BK210; clear HB; have BK207 := n0_; have BK208 := n1_; have BK209 := n2_; have BK210 := n3_; have HB := n4_; clear n0_ n1_ n2_ n3_ n4_; (try clear hb); (try clear hb2); (try clear hk); (try clear hi)))
       go_ret
       exact ⟨by first | rfl | (simp [errW_none, errW_some] <;> rfl) | (simp [*, errW_none, errW_some] <;> rfl), zb⟩
      ·replace c63 := Bool.eq_false_iff.mpr c63
       subst c63
       have H1 : ((impl_isOn.f a2_0 a2_1 a3_0 a3_1 a1_0 a1_1).bind fun t222 => (some t222)) = some r := by rw [if_neg (show ¬ (false = true) by decide)] at H; exact H
       clear H
       have H := H1
       clear H1
       replace H := Option.bind_eq_some_iff.mp H
       obtain ⟨t222, A820, H⟩ := H
       replace H : (some t222) = some r := H
       have A82 := Aside0.mk A820
       clear A820
       obtain rfl := Option.some.inj H
       have hnb83 := NB207_208.out
       have hnc83 := NB208_207.out
       have hnb84 := NB207_209.out
       have hnc84 := NB209_207.out
       have hnb85 := NB207_210.out
       have hnc85 := NB210_207.out
       have hcz86_0 : wc.cell? ⟨gb207, 0, none⟩ = some (.int .i64 a0_0) := (blk_cell BK207.out 0).trans rfl
       have hcz86_1 : wc.cell? ⟨gb207, 1, none⟩ = some (.int .i64 a0_1) := (blk_cell BK207.out 1).trans rfl
       have hfz86_0 := blk_frozen BK207.out 0
       have hfz86_1 := blk_frozen BK207.out 1
       have hnb87 := NB208_209.out
       have hnc87 := NB209_208.out
       have hnb88 := NB208_210.out
       have hnc88 := NB210_208.out
       have hcz89_0 : wc.cell? ⟨gb208, 0, none⟩ = some (.int .i64 a1_0) := (blk_cell BK208.out 0).trans rfl
       have hcz89_1 : wc.cell? ⟨gb208, 1, none⟩ = some (.int .i64 a1_1) := (blk_cell BK208.out 1).trans rfl
       have hfz89_0 := blk_frozen BK208.out 0
       have hfz89_1 := blk_frozen BK208.out 1
       have hnb90 := NB209_210.out
       have hnc90 := NB210_209.out
       have hcz91_0 : wc.cell? ⟨gb209, 0, none⟩ = some (.int .i64 a2_0) := (blk_cell BK209.out 0).trans rfl
       have hcz91_1 : wc.cell? ⟨gb209, 1, none⟩ = some (.int .i64 a2_1) := (blk_cell BK209.out 1).trans rfl
       have hfz91_0 := blk_frozen BK209.out 0
       have hfz91_1 := blk_frozen BK209.out 1
       go_wp2_with (first | ((with_reducible refine gate_callee (f := 38) rfl ?_); refine goesL_ (some 38) rfl rfl Tryd.func38 (by kernel_rfl) rfl #[.agg #[.int .i64 a0_0, .int .i64 a0_1], .agg #[.int .i64 a1_0, .int .i64 a1_1], .agg #[.int .i64 a2_0, .int .i64 a2_1]] rfl zn ?_; (with_reducible refine (impl_isOn.calls a0_0 a0_1 a1_0 a1_1 a2_0 a2_1 false _ A34.out).mono ?_); rintro e w92 ⟨rfl, hb⟩; refine ⟨_, rfl, ?_⟩; have n0_ := Aside0.mk (blk_below (g := gb207) (o := .cells #[.int .i64 a0_0, .int .i64 a0_1] 33 (0, 0)) zk hb); have n1_ := Aside0.mk (blk_below (g := gb208) (o := .cells #[.int .i64 a1_0, .int .i64 a1_1] 33 (0, 0)) zk hb); have n2_ := Aside0.mk (blk_below (g := gb209) (o := .cells #[.int .i64 a2_0, .int .i64 a2_1] 33 (0, 0)) zk hb); have n3_ := Aside0.mk (blk_below (g := gb210) (o := .cells #[.int .i64 a3_0, .int .i64 a3_1] 33 (0, 0)) zk hb); have n4_ := Aside0.mk (below_step zb hb); clear BK207; clear BK208; clear BK209; clear BK210; clear HB; have BK207 := n0_; have BK208 := n1_; have BK209 := n2_; have BK210 := n3_; have HB := n4_; clear n0_ n1_ n2_ n3_ n4_; (try clear hb); (try clear hb2); (try clear hk); (try clear hi); have hcz93_0 : w92.cell? ⟨gb207, 0, none⟩ = some (.int .i64 a0_0) := (blk_cell BK207.out 0).trans rfl; have hcz93_1 : w92.cell? ⟨gb207, 1, none⟩ = some (.int .i64 a0_1) := (blk_cell BK207.out 1).trans rfl; have hfz93_0 := blk_frozen BK207.out 0; have hfz93_1 := blk_frozen BK207.out 1; have hcz94_0 : w92.cell? ⟨gb208, 0, none⟩ = some (.int .i64 a1_0) := (blk_cell BK208.out 0).trans rfl; have hcz94_1 : w92.cell? ⟨gb208, 1, none⟩ = some (.int .i64 a1_1) := (blk_cell BK208.out 1).trans rfl; have hfz94_0 := blk_frozen BK208.out 0; have hfz94_1 := blk_frozen BK208.out 1; have hcz95_0 : w92.cell? ⟨gb210, 0, none⟩ = some (.int .i64 a3_0) := (blk_cell BK210.out 0).trans rfl; have hcz95_1 : w92.cell? ⟨gb210, 1, none⟩ = some (.int .i64 a3_1) := (blk_cell BK210.out 1).trans rfl; have hfz95_0 := blk_frozen BK210.out 0; have hfz95_1 := blk_frozen BK210.out 1) | (go_at_call 38; (with_reducible refine (impl_isOn.calls a0_0 a0_1 a1_0 a1_1 a3_0 a3_1 false _ A46.out).mono ?_); rintro e w96 ⟨rfl, hb⟩; have n0_ := Aside0.mk (blk_below (g := gb207) (o := .cells #[.int .i64 a0_0, .int .i64 a0_1] 33 (0, 0)) zk hb); have n1_ := Aside0.mk (blk_below (g := gb208) (o := .cells #[.int .i64 a1_0, .int .i64 a1_1] 33 (0, 0)) zk hb); have n2_ := Aside0.mk (blk_below (g := gb209) (o := .cells #[.int .i64 a2_0, .int .i64 a2_1] 33 (0, 0)) zk hb); have n3_ := Aside0.mk (blk_below (g := gb210) (o := .cells #[.int .i64 a3_0, .int .i64 a3_1] 33 (0, 0)) zk hb); have n4_ := Aside0.mk (below_step zb hb); clear BK207; clear BK208; clear BK209; clear BK210; clear HB; have BK207 := n0_; have BK208 := n1_; have BK209 := n2_; have BK210 := n3_; have HB := n4_; clear n0_ n1_ n2_ n3_ n4_; (try clear hb); (try clear hb2); (try clear hk); (try clear hi); have hcz97_0 : w96.cell? ⟨gb209, 0, none⟩ = some (.int .i64 a2_0) := (blk_cell BK209.out 0).trans rfl; have hcz97_1 : w96.cell? ⟨gb209, 1, none⟩ = some (.int .i64 a2_1) := (blk_cell BK209.out 1).trans rfl; have hfz97_0 := blk_frozen BK209.out 0; have hfz97_1 := blk_frozen BK209.out 1; have hcz98_0 : w96.cell? ⟨gb210, 0, none⟩ = some (.int .i64 a3_0) := (blk_cell BK210.out 0).trans rfl; have hcz98_1 : w96.cell? ⟨gb210, 1, none⟩ = some (.int .i64 a3_1) := (blk_cell BK210.out 1).trans rfl; have hfz98_0 := blk_frozen BK210.out 0; have hfz98_1 := blk_frozen BK210.out 1; have hcz99_0 : w96.cell? ⟨gb207, 0, none⟩ = some (.int .i64 a0_0) := (blk_cell BK207.out 0).trans rfl; have hcz99_1 : w96.cell? ⟨gb207, 1, none⟩ = some (.int .i64 a0_1) := (blk_cell BK207.out 1).trans rfl; have hfz99_0 := blk_frozen BK207.out 0; have hfz99_1 := blk_frozen BK207.out 1) | (go_at_call 38; (with_reducible refine (impl_isOn.calls a2_0 a2_1 a3_0 a3_1 a0_0 a0_1 false _ A62.out).mono ?_); rintro e w100 ⟨rfl, hb⟩; have n0_ := Aside0.mk (blk_below (g := gb207) (o := .cells #[.int .i64 a0_0, .int .i64 a0_1] 33 (0, 0)) zk hb); have n1_ := Aside0.mk (blk_below (g := gb208) (o := .cells #[.int .i64 a1_0, .int .i64 a1_1] 33 (0, 0)) zk hb); have n2_ := Aside0.mk (blk_below (g := gb209) (o := .cells #[.int .i64 a2_0, .int .i64 a2_1] 33 (0, 0)) zk hb); have n3_ := Aside0.mk (blk_below (g := gb210) (o := .cells #[.int .i64 a3_0, .int .i64 a3_1] 33 (0, 0)) zk hb); have n4_ := Aside0.mk (below_step zb hb); clear BK207; clear BK208; clear BK209; clear BK210; clear HB; have BK207 := n0_; have BK208 := n1_; have BK209 := n2_; have BK210 := n3_; have HB := n4_; clear n0_ n1_ n2_ n3_ n4_; (try clear hb); (try clear hb2); (try clear hk); (try clear hi); have hcz101_0 : w100.cell? ⟨gb209, 0, none⟩ = some (.int .i64 a2_0) := (blk_cell BK209.out 0).trans rfl; have hcz101_1 : w100.cell? ⟨gb209, 1, none⟩ = some (.int .i64 a2_1) := (blk_cell BK209.out 1).trans rfl; have hfz101_0 := blk_frozen BK209.out 0; have hfz101_1 := blk_frozen BK209.out 1; have hcz102_0 : w100.cell? ⟨gb210, 0, none⟩ = some (.int .i64 a3_0) := (blk_cell BK210.out 0).trans rfl; have hcz102_1 : w100.cell? ⟨gb210, 1, none⟩ = some (.int .i64 a3_1) := (blk_cell BK210.out 1).trans rfl; have hfz102_0 := blk_frozen BK210.out 0; have hfz102_1 := blk_frozen BK210.out 1; have hcz103_0 : w100.cell? ⟨gb208, 0, none⟩ = some (.int .i64 a1_0) := (blk_cell BK208.out 0).trans rfl; have hcz103_1 : w100.cell? ⟨gb208, 1, none⟩ = some (.int .i64 a1_1) := (blk_cell BK208.out 1).trans rfl; have hfz103_0 := blk_frozen BK208.out 0; have hfz103_1 := blk_frozen BK208.out 1) | (go_at_call 38; (with_reducible refine (impl_isOn.calls a2_0 a2_1 a3_0 a3_1 a1_0 a1_1 t222 _ A82.out).mono ?_); rintro e w104 ⟨rfl, hb⟩; have n0_ := Aside0.mk (blk_below (g := gb207) (o := .cells #[.int .i64 a0_0, .int .i64 a0_1] 33 (0, 0)) zk hb); have n1_ := Aside0.mk (blk_below (g := gb208) (o := .cells #[.int .i64 a1_0, .int .i64 a1_1] 33 (0, 0)) zk hb); have n2_ := Aside0.mk (blk_below (g := gb209) (o := .cells #[.int .i64 a2_0, .int .i64 a2_1] 33 (0, 0)) zk hb); have n3_ := Aside0.mk (blk_below (g := gb210) (o := .cells #[.int .i64 a3_0, .int .i64 a3_1] 33 (0, 0)) zk hb); have n4_ := Aside0.mk (below_step zb hb); clear BK207; clear BK208; clear BK209; clear BK210; clear HB; have BK207 := n0_; have BK208 := n1_; have BK209 := n2_; have BK210 := n3_; have HB := n4_; clear n0_ n1_ n2_ n3_ n4_; (try clear hb); (try clear hb2); (try clear hk); (try clear hi)))
       go_ret
       exact ⟨by first | rfl | (simp [errW_none, errW_some] <;> rfl) | (simp [*, errW_none, errW_some] <;> rfl), zb⟩
end Go.Proofs.YtphpdfcblchpnaaDoor.Q
namespace Go.Proofs.YtphpdfcblchpnaaDoor.Q
open Go.RowKit Go.Proofs.YtphpdfcblchpnaaDoorW.PrintWords Go.Proofs.YtphpdfcblchpnaaDoorW.PrintLast Go.Proofs.YtphpdfcblchpnaaDoorW.PrintMore
attribute [local go_sem] max2_int min2_int max_two min_two max_three min_three max_four min_four   -- for this text's walks alone
set_option linter.unusedVariables false
set_option linter.unusedSimpArgs false
mutual
def impl_IsPolygon.j0 : Nat → List (S33) → Int → Bool → Option (Bool)
 | 0, _, _, _ => none
 | k + 1, x0, x3, x16 => if x16 = true then (some false) else (impl_IsPolygon.l0 k x0 x3 x0 (x0.length : Int) 0)
def impl_IsPolygon.l0 : Nat → List (S33) → Int → List (S33) → Int → Int → Option (Bool)
 | 0, _, _, _, _, _ => none
 | k + 1, x0, x3, x17, x18, x19 => if x19 < x18 then (if 0 ≤ x19 then (if x19 < (x17.length : Int) then (if x19 ≤ (x0.length : Int) then ((impl_Peg_22.f k (x0.take (x19 : Int).toNat) ((rd_T33 x17 x19).f0) ((rd_T33 x17 x19).f1)).bind fun t231 => (if t231 = true then (impl_IsPolygon.j2 k x0 x3 x19 x17 x18 x19 true ((rd_T33 x17 x19).f0) ((rd_T33 x17 x19).f1)) else ((impl_at.f x0 (wrap64 (x19 - 1))).bind fun bt232 => ((impl_at.f x0 (wrap64 (x19 + 1))).bind fun bt234 => ((impl_turn.f bt232.1 bt232.2 ((rd_T33 x17 x19).f0) ((rd_T33 x17 x19).f1) bt234.1 bt234.2).bind fun t236 => (impl_IsPolygon.j2 k x0 x3 x19 x17 x18 x19 (t236 == 0) ((rd_T33 x17 x19).f0) ((rd_T33 x17 x19).f1))))))) else (none)) else (none)) else (none)) else (some true)
def impl_IsPolygon.j2 : Nat → List (S33) → Int → Int → List (S33) → Int → Int → Bool → Int → Int → Option (Bool)
 | 0, _, _, _, _, _, _, _, _, _ => none
 | k + 1, x0, x3, x4, x17, x18, x19, x41, x227000, x227001 => if x41 = true then (some false) else (impl_IsPolygon.l1 k x0 x3 x4 x17 x18 x19 x4 0 x227000 x227001)
def impl_IsPolygon.l1 : Nat → List (S33) → Int → Int → List (S33) → Int → Int → Int → Int → Int → Int → Option (Bool)
 | 0, _, _, _, _, _, _, _, _, _, _ => none
 | k + 1, x0, x3, x4, x17, x18, x19, x42, x43, x227000, x227001 => if x43 < x42 then (if (wrap64 (x43 + 1)) = x4 then (impl_IsPolygon.j4 k x0 x3 x4 x43 x17 x18 x19 x42 x43 true x227000 x227001) else (if (wrap64 (x4 + 1)) = x3 then (impl_IsPolygon.j4 k x0 x3 x4 x43 x17 x18 x19 x42 x43 (x43 == 0) x227000 x227001) else (impl_IsPolygon.j4 k x0 x3 x4 x43 x17 x18 x19 x42 x43 false x227000 x227001))) else (impl_IsPolygon.l0 k x0 x3 x17 x18 (wrap64 (x19 + 1)))
def impl_IsPolygon.j4 : Nat → List (S33) → Int → Int → Int → List (S33) → Int → Int → Int → Int → Bool → Int → Int → Option (Bool)
 | 0, _, _, _, _, _, _, _, _, _, _, _, _ => none
 | k + 1, x0, x3, x4, x6, x17, x18, x19, x42, x43, x59, x227000, x227001 => if x59 = true then (impl_IsPolygon.l1 k x0 x3 x4 x17 x18 x19 x42 (wrap64 (x43 + 1)) x227000 x227001) else (if 0 ≤ x6 then (if x6 < (x0.length : Int) then (if 0 ≤ (wrap64 (x6 + 1)) then (if (wrap64 (x6 + 1)) < (x0.length : Int) then ((impl_at.f x0 (wrap64 (x4 + 1))).bind fun bt239 => ((impl_meet.f k ((rd_T33 x0 x6).f0) ((rd_T33 x0 x6).f1) ((rd_T33 x0 (wrap64 (x6 + 1))).f0) ((rd_T33 x0 (wrap64 (x6 + 1))).f1) x227000 x227001 bt239.1 bt239.2).bind fun t241 => (if t241 = true then (some false) else (impl_IsPolygon.l1 k x0 x3 x4 x17 x18 x19 x42 (wrap64 (x43 + 1)) x227000 x227001)))) else (none)) else (none)) else (none)) else (none))
end
def impl_IsPolygon.f (k : Nat) (l0 : List (S33)) : Option (Bool) := (impl_within.f (l0.length : Int) 3 10).bind fun t223 => (if t223 = true then ((impl_arePegs.f k l0).bind fun t224 => (impl_IsPolygon.j0 k l0 (l0.length : Int) (!t224))) else (impl_IsPolygon.j0 k l0 (l0.length : Int) true))
def impl_IsPolygon.T7 : Bool × List (List Nat × List Nat) := (true, [([], []), ([], []), ([0, 1], [0, 1]), ([], []), ([2, 3], [2, 3]), ([4, 4], [4]), ([5], [5]), ([5], [5]), ([7, 5], [5, 7]), ([6, 8, 5, 5], [5, 6, 8]), ([5], [5]), ([5], [5]), ([5], [5]), ([12, 5], [5, 12]), ([11, 13, 9, 5], [5, 11, 13]), ([9, 10, 14, 14, 5], [5, 9, 10, 14]), ([15, 5], [5, 15]), ([5, 16], [5, 16])])
def impl_IsPolygon.B7 : List Nat := [0, 0, 3, 0, 15, 31, 63, 63, 191, 511, 63, 63, 63, 4159, 15359, 32767, 65535, 131071]
theorem impl_IsPolygon.tab7 : rtab .any (opsOf Tryd.f12 7) = impl_IsPolygon.T7 := by kernel_rfl
theorem impl_IsPolygon.bits7 : waitsOk impl_IsPolygon.T7.2 impl_IsPolygon.B7 = true := by kernel_rfl
def impl_IsPolygon.T13 : Bool × List (List Nat × List Nat) := (true, [([], []), ([], []), ([0, 1], [0, 1]), ([2], [2]), ([], []), ([], []), ([5], [5]), ([4, 6], [4, 6]), ([7], [7]), ([], []), ([], []), ([], []), ([11], [11]), ([10, 12], [10, 12]), ([3, 8, 9, 13, 13], [3, 8, 9, 13])])
def impl_IsPolygon.B13 : List Nat := [0, 0, 3, 7, 0, 0, 32, 112, 240, 0, 0, 0, 2048, 7168, 16383]
theorem impl_IsPolygon.tab13 : rtab .any (opsOf Tryd.f12 13) = impl_IsPolygon.T13 := by kernel_rfl
theorem impl_IsPolygon.bits13 : waitsOk impl_IsPolygon.T13.2 impl_IsPolygon.B13 = true := by kernel_rfl
set_option maxHeartbeats 8000000 in
set_option maxRecDepth 100000 in
theorem impl_IsPolygon.calls (k : Nat) (A0 : Option Addr) (c0 : Nat) (l0 : List (S33)) (r : Bool) (w : World) (hr0 : Kd.C k33 w A0 l0.length l0) (hc0 : l0.length ≤ c0) (h : impl_IsPolygon.f k l0 = some r) :
  Calls Tryd.prog 12 #[.slice A0 l0.length c0] w fun e w' => e = .returned (.bool r) ∧ Below w.heap.size w w' := by
 have hu33 := Tryd.underlying33
 have HR0 := Aside0.mk hr0
 have HC0 := Aside0.mk hc0
 clear hr0 hc0
 have HB := Aside0.mk (Below.refl w.heap.size w)
 have H : ((impl_within.f (l0.length : Int) 3 10).bind fun t223 => (if t223 = true then ((impl_arePegs.f k l0).bind fun t224 => (impl_IsPolygon.j0 k l0 (l0.length : Int) (!t224))) else (impl_IsPolygon.j0 k l0 (l0.length : Int) true))) = some r := h
 clear h
 have HC2 := Aside0.mk H
 clear H
 go_enter Tryd.func12, Tryd.ntmps12
 go_upto_region 2 with (fail)
 go_cut [16] (fun v16 wc => ∃ (kq : Nat) (x16_1 : Bool), v16 = .bool x16_1 ∧ Aside0 (impl_IsPolygon.j0 kq l0 (l0.length : Int) x16_1 = some r) ∧ Aside0 (kq ≤ k) ∧ Aside0 (Below w.heap.size w wc))
 case first =>
  have H := HC2.out
  clear HC2
  replace H := Option.bind_eq_some_iff.mp H
  obtain ⟨t223, A30, H⟩ := H
  replace H : (if t223 = true then ((impl_arePegs.f k l0).bind fun t224 => (impl_IsPolygon.j0 k l0 (l0.length : Int) (!t224))) else (impl_IsPolygon.j0 k l0 (l0.length : Int) true)) = some r := H
  have A3 := Aside0.mk A30
  clear A30
  by_cases c4 : t223 = true
  ·subst c4
   have H1 : ((impl_arePegs.f k l0).bind fun t224 => (impl_IsPolygon.j0 k l0 (l0.length : Int) (!t224))) = some r := by rw [if_pos rfl] at H; exact H
   clear H
   have H := H1
   clear H1
   replace H := Option.bind_eq_some_iff.mp H
   obtain ⟨t224, A50, H⟩ := H
   replace H : (impl_IsPolygon.j0 k l0 (l0.length : Int) (!t224)) = some r := H
   have A5 := Aside0.mk A50
   clear A50
   have H' := Aside0.mk H
   clear H
   go_wp2_with (first | ((with_reducible refine gate_callee (f := 20) rfl ?_); refine goesL_ (some 10) rfl rfl Tryd.func20 (by kernel_rfl) rfl #[.int .i64 (l0.length : Int), .int .i64 3, .int .i64 10] rfl zn ?_; (with_reducible refine (impl_within.calls (l0.length : Int) 3 10 true _ A3.out).mono ?_); rintro e w' ⟨rfl, ⟨nd, rfl⟩⟩; refine ⟨_, rfl, ?_⟩) | (go_at_call 21; (with_reducible refine (impl_arePegs.calls k _ _ l0 t224 _ ?side1 ?side2 A5.out).mono ?_); (case side1 => repeat (first | exact (Kd.C_below HR0.out zb) | (with_reducible refine Kd.C_alloc ?_ _) | (with_reducible refine Kd.C_drewN ?_ _) | (with_reducible refine Kd.C_drew ?_))); (case side2 => exact HC0.out); rintro e w6 ⟨rfl, hb⟩; have n0_ := Aside0.mk (below_step zb hb); clear HB; have HB := n0_; clear n0_; (try clear hb); (try clear hb2); (try clear hk); (try clear hi)))
   go_meet
   case rel => exact ⟨_, (!t224), (by first | rfl | (simp; done) | (simp [*]; done)), H', ⟨by first | omega | exact Nat.le_refl _⟩, ⟨zb⟩⟩
  ·replace c4 := Bool.eq_false_iff.mpr c4
   subst c4
   have H1 : (impl_IsPolygon.j0 k l0 (l0.length : Int) true) = some r := by rw [if_neg (show ¬ (false = true) by decide)] at H; exact H
   clear H
   have H := H1
   clear H1
   have H' := Aside0.mk H
   clear H
   go_wp2_with (first | ((with_reducible refine gate_callee (f := 20) rfl ?_); refine goesL_ (some 10) rfl rfl Tryd.func20 (by kernel_rfl) rfl #[.int .i64 (l0.length : Int), .int .i64 3, .int .i64 10] rfl zn ?_; (with_reducible refine (impl_within.calls (l0.length : Int) 3 10 false _ A3.out).mono ?_); rintro e w' ⟨rfl, ⟨nd, rfl⟩⟩; refine ⟨_, rfl, ?_⟩))
   go_meet
   case rel => exact ⟨_, (true), (by first | rfl | (simp; done) | (simp [*]; done)), H', ⟨by first | omega | exact Nat.le_refl _⟩, ⟨zb⟩⟩
 case rest =>
  clear HC2
  try clear c1
  try clear c2
  try clear p2
  try clear c4
  obtain ⟨kq, x16_1, rfl, HA, HJ1, HB⟩ := hcut
  cases kq with
  | zero => exact absurd HA.out (by simp [impl_IsPolygon.j0])
  | succ kj1 =>
   have H := HA.out
   clear HA
   simp only [impl_IsPolygon.j0] at H
   by_cases c7 : x16_1 = true
   ·subst c7
    have H1 : (some false) = some r := by rw [if_pos rfl] at H; exact H
    clear H
    have H := H1
    clear H1
    obtain rfl := Option.some.inj H
    go_wp2
    go_ret
    exact ⟨by first | rfl | (simp [errW_none, errW_some] <;> rfl) | (simp [*, errW_none, errW_some] <;> rfl), zb⟩
   ·replace c7 := Bool.eq_false_iff.mpr c7
    subst c7
    have H1 : (impl_IsPolygon.l0 kj1 l0 (l0.length : Int) l0 (l0.length : Int) 0) = some r := by rw [if_neg (show ¬ (false = true) by decide)] at H; exact H
    clear H
    have H := H1
    clear H1
    have H' := Aside0.mk H
    clear H
    go_wp2
    go_loopg [19] kj1 (fun kq v19 w' => ∃ (x19_2 : Int), v19 = .int .i64 x19_2 ∧ Aside0 (impl_IsPolygon.l0 kq l0 (l0.length : Int) l0 (l0.length : Int) x19_2 = some r) ∧ Aside0 (kq ≤ kj1) ∧ Aside0 (Below w.heap.size w w'))
    case atStart => exact ⟨(0), (by first | rfl | (simp; done) | (simp [*]; done)), H', ⟨Nat.le_refl _⟩, ⟨zb⟩⟩
    case round =>
     clear H'
     try clear c1
     try clear c2
     try clear p2
     try clear c4
     try clear c7
     try clear p2
     obtain ⟨x19_2, rfl, HA, HK2, HB⟩ := hrel
     cases gk with
     | zero => exact absurd HA.out (by simp [impl_IsPolygon.l0])
     | succ k2 =>
      have H := HA.out
      clear HA
      simp only [impl_IsPolygon.l0] at H
      by_cases c8 : x19_2 < (l0.length : Int)
      ·rw [if_pos c8] at H
       have c8b0 : decide (x19_2 < (l0.length : Int)) = true := decide_eq_true c8
       clear c8
       by_cases c9 : 0 ≤ x19_2
       ·rw [if_pos c9] at H
        have c9b0 : decide (0 ≤ x19_2) = true := decide_eq_true c9
        clear c9
        by_cases c10 : x19_2 < (l0.length : Int)
        ·rw [if_pos c10] at H
         have c10b0 : decide (x19_2 < (l0.length : Int)) = true := decide_eq_true c10
         clear c10
         have HC11 := Aside0.mk H
         clear H
         have p225 : 0 ≤ (x19_2 : Int) := of_decide_eq_true (by first | (with_reducible assumption) | assumption)
         have q225 : x19_2 < (l0.length : Int) := of_decide_eq_true (by first | (with_reducible assumption) | assumption)
         obtain ⟨ad225, e225, hx225_0, hx225_1⟩ := at_T33 HR0.out x19_2 p225 q225
         cases e225
         replace hx225_0 := zc HB hx225_0
         replace hx225_1 := zc HB hx225_1
         replace p225 := eq_true p225
         replace q225 := eq_true q225
         go_upto_region 7 with (first | ((with_reducible refine gate_dst (N := 5) rfl ?_); refine box_event ?hg (N := 5) ?hd (cs := #[.int .i64 0, .int .i64 0]) (t := 33) ?hr ?_; (case hd => rfl); (case hg => rfl); (case hr => first | (go_simp; done) | (go_simp; rfl)); intro gb226 hg w12 hbox hb; have n0_ := Aside0.mk (below_step zb hb); have n1_ := Aside0.mk (hbox); have n2_ := Aside0.mk ((by rw [hg]; exact (below_size zb) : w.heap.size ≤ gb226)); have n3_ := Aside0.mk ((by rw [hg]; exact (below_size zb) : w.heap.size ≤ gb226)); clear HB; have HB := n0_; have BK226 := n1_; have GW226 := n2_; have GE226 := n3_; clear n0_ n1_ n2_ n3_; clear hb hbox hg; have hcz13_0 : w12.cell? ⟨gb226, 0, none⟩ = some (.int .i64 0) := (blk_cell BK226.out 0).trans rfl; have hcz13_1 : w12.cell? ⟨gb226, 1, none⟩ = some (.int .i64 0) := (blk_cell BK226.out 1).trans rfl; have hfz13_0 := blk_frozen BK226.out 0; have hfz13_1 := blk_frozen BK226.out 1))
         (try simp only [Act.put, List.setIfInBounds_toArray, List.set_cons_zero, List.set_cons_succ])
         go_cut [41] (fun v41 wc => ∃ (kq : Nat) (x41_10 : Bool), v41 = .bool x41_10 ∧ Aside0 (impl_IsPolygon.j2 kq l0 (l0.length : Int) x19_2 l0 (l0.length : Int) x19_2 x41_10 ((rd_T33 l0 x19_2).f0) ((rd_T33 l0 x19_2).f1) = some r) ∧ Aside0 (kq ≤ k2) ∧ Aside0 (wc.heap[gb226]? = some (.cells #[.int .i64 ((rd_T33 l0 x19_2).f0), .int .i64 ((rd_T33 l0 x19_2).f1)] 33 (0, 0))) ∧ Aside0 (Below w.heap.size w wc))
         case first =>
          have H := HC11.out
          clear HC11
          have c14b0 := eq_true (of_decide_eq_true (by first | (with_reducible assumption) | assumption) : 0 ≤ x19_2)
          by_cases c15 : x19_2 ≤ (l0.length : Int)
          ·rw [if_pos c15] at H
           have c15b0 := eq_true c15
           have c15b1 : decide (x19_2 ≤ (l0.length : Int)) = true := decide_eq_true c15
           clear c15
           obtain ⟨y227, hy227⟩ : ∃ y_ : List (S33), y_ = (l0.take (x19_2 : Int).toNat) := ⟨_, rfl⟩
           replace H : ((impl_Peg_22.f k2 y227 ((rd_T33 l0 x19_2).f0) ((rd_T33 l0 x19_2).f1)).bind fun t231 => (if t231 = true then (impl_IsPolygon.j2 k2 l0 (l0.length : Int) x19_2 l0 (l0.length : Int) x19_2 true ((rd_T33 l0 x19_2).f0) ((rd_T33 l0 x19_2).f1)) else ((impl_at.f l0 (wrap64 (x19_2 - 1))).bind fun bt232 => ((impl_at.f l0 (wrap64 (x19_2 + 1))).bind fun bt234 => ((impl_turn.f bt232.1 bt232.2 ((rd_T33 l0 x19_2).f0) ((rd_T33 l0 x19_2).f1) bt234.1 bt234.2).bind fun t236 => (impl_IsPolygon.j2 k2 l0 (l0.length : Int) x19_2 l0 (l0.length : Int) x19_2 (t236 == 0) ((rd_T33 l0 x19_2).f0) ((rd_T33 l0 x19_2).f1))))))) = some r := by first | (rw [hy227]; with_reducible exact H) | (have H2_ := (Option.bind_some _ _).symm.trans H; rw [hy227]; with_reducible exact H2_) | (have H2_ := (Option.bind_some _ _).symm.trans H; with_reducible exact H2_) | with_reducible exact H | (rw [hy227]; exact H) | exact H
           have Ny227 := Aside0.mk hy227
           clear hy227
           replace H := Option.bind_eq_some_iff.mp H
           obtain ⟨t231, A160, H⟩ := H
           replace H : (if t231 = true then (impl_IsPolygon.j2 k2 l0 (l0.length : Int) x19_2 l0 (l0.length : Int) x19_2 true ((rd_T33 l0 x19_2).f0) ((rd_T33 l0 x19_2).f1)) else ((impl_at.f l0 (wrap64 (x19_2 - 1))).bind fun bt232 => ((impl_at.f l0 (wrap64 (x19_2 + 1))).bind fun bt234 => ((impl_turn.f bt232.1 bt232.2 ((rd_T33 l0 x19_2).f0) ((rd_T33 l0 x19_2).f1) bt234.1 bt234.2).bind fun t236 => (impl_IsPolygon.j2 k2 l0 (l0.length : Int) x19_2 l0 (l0.length : Int) x19_2 (t236 == 0) ((rd_T33 l0 x19_2).f0) ((rd_T33 l0 x19_2).f1)))))) = some r := H
           have A16 := Aside0.mk A160
           clear A160
           by_cases c17 : t231 = true
           ·subst c17
            have H1 : (impl_IsPolygon.j2 k2 l0 (l0.length : Int) x19_2 l0 (l0.length : Int) x19_2 true ((rd_T33 l0 x19_2).f0) ((rd_T33 l0 x19_2).f1)) = some r := by rw [if_pos rfl] at H; exact H
            clear H
            have H := H1
            clear H1
            have H' := Aside0.mk H
            clear H
            try go_wp2
            have n0_ : Aside0 (((w12.setCell ⟨gb226, 0, none⟩ (.int .i64 ((rd_T33 l0 x19_2).f0))).setCell ⟨gb226, 1, none⟩ (.int .i64 ((rd_T33 l0 x19_2).f1))).heap[gb226]? = some (.cells #[.int .i64 ((rd_T33 l0 x19_2).f0), .int .i64 ((rd_T33 l0 x19_2).f1)] 33 (0, 0))) := ⟨by (with_reducible repeat (first | refine blk_drewN ?_ _ | refine blk_drew ?_ | refine blk_alloc ?_ _)); refine blk_put (cs := #[.int .i64 ((rd_T33 l0 x19_2).f0), .int .i64 0]) ?_ 1 _ rfl; (with_reducible repeat (first | refine blk_drewN ?_ _ | refine blk_drew ?_ | refine blk_alloc ?_ _)); refine blk_put (cs := #[.int .i64 0, .int .i64 0]) ?_ 0 _ rfl; (with_reducible repeat (first | refine blk_drewN ?_ _ | refine blk_drew ?_ | refine blk_alloc ?_ _)); exact BK226.out⟩
            have n1_ : Aside0 (Below w.heap.size w ((w12.setCell ⟨gb226, 0, none⟩ (.int .i64 ((rd_T33 l0 x19_2).f0))).setCell ⟨gb226, 1, none⟩ (.int .i64 ((rd_T33 l0 x19_2).f1)))) := ⟨zb⟩
            (try clear BK226)
            (try clear HB)
            generalize ((w12.setCell ⟨gb226, 0, none⟩ (.int .i64 ((rd_T33 l0 x19_2).f0))).setCell ⟨gb226, 1, none⟩ (.int .i64 ((rd_T33 l0 x19_2).f1))) = w18 at n0_ n1_ ⊢
            have BK226 := n0_
            have HB := n1_
            clear n0_ n1_
            have n0_ := Aside0.mk (blk_drew BK226.out)
            have n1_ := Aside0.mk (below_drew1 HB.out)
            clear BK226
            clear HB
            have BK226 := n0_
            have HB := n1_
            clear n0_ n1_
            have q20 : (x19_2 : Int) ≤ ((l0.length : Int) : Int) := of_decide_eq_true (by first | (with_reducible assumption) | assumption)
            obtain ⟨i020, hi020, _, hsz20, _⟩ := info_parts info33
            have hroom20 : l0.length ≤ c0 := HC0.out
            have hC20 : Kd.C k33 _ (some ad225) l0.length l0 := HR0.out
            have hcut20 := cut_to (P := Tryd.prog) 26 33 .i64 Tryd.underlying26 hi020 (some ad225) l0.length c0 x19_2 (of_decide_eq_true (by first | (with_reducible assumption) | assumption)) q20 hroom20
            have hr20 := Kd.C_take (m := (x19_2 : Int).toNat) hC20 (by omega)
            have hy20 : y227.length = (x19_2 : Int).toNat := (by rw [Ny227.out, List.length_take]; omega)
            rw [← Ny227.out] at hr20
            rw [← hy20] at hcut20
            have HR230 := Aside0.mk hr20
            have HC230 := Aside0.mk (show y227.length ≤ c0 from by omega)
            clear hr20 hC20 hroom20 hi020 hsz20
            have KY20 := Aside0.mk hy20
            clear hy20
            replace q20 := eq_true q20
            refine start_ (n := 18) (S := fun w' => w'.cell? ⟨gb226, 0, none⟩ = some (.int .i64 ((rd_T33 l0 x19_2).f0)) ∧ w'.cell? ⟨gb226, 1, none⟩ = some (.int .i64 ((rd_T33 l0 x19_2).f1))) (ds := []) (zl 18 0) (by kernel_rfl) rfl rfl ⟨(blk_cell BK226.out 0).trans rfl, (blk_cell BK226.out 1).trans rfl⟩ (fun hHeld => ?_); refine with_tabW impl_IsPolygon.tab7 impl_IsPolygon.bits7 (fun HT_ HW_ => ?_)
            generalize w18.drew = w19 at BK226 HB HR230 hHeld ⊢
            refine zp 0 24 18 1 HT_ ?_
            refine zp 1 25 18 3 HT_ ?_
            refine zp 2 26 18 7 HT_ ?_
            refine take_ (i := 3) (N := some 27) (v := ?_) (a' := ?_) (zl 18 15) rfl rfl (take_ofW HT_.out HW_.out (by kernel_rfl)) (fun _ _ _ h => h) (Or.inl ⟨by rfl, ?_⟩) hHeld ?_ ?_
            rotate_left
            ·rintro w' ⟨s0, s1⟩
             go_simp
             with_reducible rfl
            rotate_left
            ·exact zs
            refine one_ (i := 4) (N := some 28) (zl 18 31) rfl rfl (one_of HT_.out (by kernel_rfl)) (by decide) (fun K hK => ?_)
            refine goes_ Tryd.func22 (by kernel_rfl) rfl #[.slice (some ad225) y227.length c0, .agg #[.int .i64 ((rd_T33 l0 x19_2).f0), .int .i64 ((rd_T33 l0 x19_2).f1)]] (by rfl) rfl rfl zn ?_
            with_reducible refine (impl_Peg_22.calls k2 _ _ y227 ((rd_T33 l0 x19_2).f0) ((rd_T33 l0 x19_2).f1) true _ ?side1 ?side2 A16.out).mono ?_
            (case side1 => repeat (first | exact (Kd.C_below HR230.out HB.out) | (with_reducible refine Kd.C_alloc ?_ _) | (with_reducible refine Kd.C_drewN ?_ _) | (with_reducible refine Kd.C_drew ?_)))
            (case side2 => exact HC230.out)
            rintro e w21 ⟨rfl, hb⟩
            refine ⟨_, rfl, ?_⟩
            have n0_ := Aside0.mk (blk_below (g := gb226) (o := .cells #[.int .i64 ((rd_T33 l0 x19_2).f0), .int .i64 ((rd_T33 l0 x19_2).f1)] 33 (0, 0)) zk hb)
            have n1_ := Aside0.mk (below_step zb hb)
            clear BK226
            clear HB
            have BK226 := n0_
            have HB := n1_
            clear n0_ n1_
            (try clear hb)
            (try clear hb2)
            (try clear hk)
            (try clear hi)
            refine hK.out _ _ ⟨(blk_cell BK226.out 0).trans rfl, (blk_cell BK226.out 1).trans rfl⟩ (fun hHeld => ?_)
            clear hK K
            refine norm_ (a' := ?_) ?_ ?_
            rotate_left
            ·show Act.put _ (some 28) _ = _
             exact zs
            refine zp 5 29 18 63 HT_ ?_
            refine pure_ (i := 6) (N := some 30) (v := undef) (a' := ?_) (zl 18 127) rfl rfl (any_of HT_.out (by kernel_rfl)) (fun _ _ _ h => h) (Or.inr ⟨by rfl, rfl⟩) ?_ ?_
            rotate_left
            ·exact zs
            refine pure_ (i := 7) (N := some 31) (v := undef) (a' := ?_) (zl 18 255) rfl rfl (any_of HT_.out (by kernel_rfl)) (fun _ _ _ h => h) (Or.inr ⟨by rfl, rfl⟩) ?_ ?_
            rotate_left
            ·exact zs
            refine pure_ (i := 8) (N := some 32) (v := undef) (a' := ?_) (zl 18 511) rfl rfl (any_of HT_.out (by kernel_rfl)) (fun _ _ _ h => h) (Or.inr ⟨by rfl, rfl⟩) ?_ ?_
            rotate_left
            ·exact zs
            refine pure_ (i := 9) (N := some 33) (v := undef) (a' := ?_) (zl 18 1023) rfl rfl (any_of HT_.out (by kernel_rfl)) (fun _ _ _ h => h) (Or.inr ⟨by rfl, rfl⟩) ?_ ?_
            rotate_left
            ·exact zs
            refine pure_ (i := 10) (N := some 34) (v := undef) (a' := ?_) (zl 18 2047) rfl rfl (any_of HT_.out (by kernel_rfl)) (fun _ _ _ h => h) (Or.inr ⟨by rfl, rfl⟩) ?_ ?_
            rotate_left
            ·exact zs
            refine pure_ (i := 11) (N := some 35) (v := undef) (a' := ?_) (zl 18 4095) rfl rfl (any_of HT_.out (by kernel_rfl)) (fun _ _ _ h => h) (Or.inr ⟨by rfl, rfl⟩) ?_ ?_
            rotate_left
            ·exact zs
            refine pure_ (i := 12) (N := some 36) (v := undef) (a' := ?_) (zl 18 8191) rfl rfl (any_of HT_.out (by kernel_rfl)) (fun _ _ _ h => h) (Or.inr ⟨by rfl, rfl⟩) ?_ ?_
            rotate_left
            ·exact zs
            refine pure_ (i := 13) (N := some 37) (v := undef) (a' := ?_) (zl 18 16383) rfl rfl (any_of HT_.out (by kernel_rfl)) (fun _ _ _ h => h) (Or.inr ⟨by rfl, rfl⟩) ?_ ?_
            rotate_left
            ·exact zs
            refine pure_ (i := 14) (N := some 38) (v := undef) (a' := ?_) (zl 18 32767) rfl rfl (any_of HT_.out (by kernel_rfl)) (fun _ _ _ h => h) (Or.inr ⟨by rfl, rfl⟩) ?_ ?_
            rotate_left
            ·exact zs
            refine pure_ (i := 15) (N := some 39) (v := undef) (a' := ?_) (zl 18 65535) rfl rfl (any_of HT_.out (by kernel_rfl)) (fun _ _ _ h => h) (Or.inr ⟨by rfl, rfl⟩) ?_ ?_
            rotate_left
            ·exact zs
            refine pure_ (i := 16) (N := some 40) (v := undef) (a' := ?_) (zl 18 131071) rfl rfl (any_of HT_.out (by kernel_rfl)) (fun _ _ _ h => h) (Or.inr ⟨by rfl, rfl⟩) ?_ ?_
            rotate_left
            ·exact zs
            refine zp 17 41 18 262143 HT_ ?_
            refine done_ (done_of HT_.out (by kernel_rfl)) ?_
            try go_wp2
            go_meet
            case rel => exact ⟨_, (true), (by first | rfl | (simp; done) | (simp [*]; done)), H', ⟨by have := HJ1.out; have := HK2.out; first | omega | exact Nat.le_refl _⟩, ⟨zk⟩, ⟨zb⟩⟩
           ·replace c17 := Bool.eq_false_iff.mpr c17
            subst c17
            have H1 : ((impl_at.f l0 (wrap64 (x19_2 - 1))).bind fun bt232 => ((impl_at.f l0 (wrap64 (x19_2 + 1))).bind fun bt234 => ((impl_turn.f bt232.1 bt232.2 ((rd_T33 l0 x19_2).f0) ((rd_T33 l0 x19_2).f1) bt234.1 bt234.2).bind fun t236 => (impl_IsPolygon.j2 k2 l0 (l0.length : Int) x19_2 l0 (l0.length : Int) x19_2 (t236 == 0) ((rd_T33 l0 x19_2).f0) ((rd_T33 l0 x19_2).f1))))) = some r := by rw [if_neg (show ¬ (false = true) by decide)] at H; exact H
            clear H
            have H := H1
            clear H1
            replace H := Option.bind_eq_some_iff.mp H
            obtain ⟨⟨t232, t233⟩, A220, H⟩ := H
            replace H : ((impl_at.f l0 (wrap64 (x19_2 + 1))).bind fun bt234 => ((impl_turn.f t232 t233 ((rd_T33 l0 x19_2).f0) ((rd_T33 l0 x19_2).f1) bt234.1 bt234.2).bind fun t236 => (impl_IsPolygon.j2 k2 l0 (l0.length : Int) x19_2 l0 (l0.length : Int) x19_2 (t236 == 0) ((rd_T33 l0 x19_2).f0) ((rd_T33 l0 x19_2).f1)))) = some r := H
            have A22 := Aside0.mk A220
            clear A220
            replace H := Option.bind_eq_some_iff.mp H
            obtain ⟨⟨t234, t235⟩, A230, H⟩ := H
            replace H : ((impl_turn.f t232 t233 ((rd_T33 l0 x19_2).f0) ((rd_T33 l0 x19_2).f1) t234 t235).bind fun t236 => (impl_IsPolygon.j2 k2 l0 (l0.length : Int) x19_2 l0 (l0.length : Int) x19_2 (t236 == 0) ((rd_T33 l0 x19_2).f0) ((rd_T33 l0 x19_2).f1))) = some r := H
            have A23 := Aside0.mk A230
            clear A230
            replace H := Option.bind_eq_some_iff.mp H
            obtain ⟨t236, A240, H⟩ := H
            replace H : (impl_IsPolygon.j2 k2 l0 (l0.length : Int) x19_2 l0 (l0.length : Int) x19_2 (t236 == 0) ((rd_T33 l0 x19_2).f0) ((rd_T33 l0 x19_2).f1)) = some r := H
            have A24 := Aside0.mk A240
            clear A240
            have H' := Aside0.mk H
            clear H
            try go_wp2
            have n0_ : Aside0 (((w12.setCell ⟨gb226, 0, none⟩ (.int .i64 ((rd_T33 l0 x19_2).f0))).setCell ⟨gb226, 1, none⟩ (.int .i64 ((rd_T33 l0 x19_2).f1))).heap[gb226]? = some (.cells #[.int .i64 ((rd_T33 l0 x19_2).f0), .int .i64 ((rd_T33 l0 x19_2).f1)] 33 (0, 0))) := ⟨by (with_reducible repeat (first | refine blk_drewN ?_ _ | refine blk_drew ?_ | refine blk_alloc ?_ _)); refine blk_put (cs := #[.int .i64 ((rd_T33 l0 x19_2).f0), .int .i64 0]) ?_ 1 _ rfl; (with_reducible repeat (first | refine blk_drewN ?_ _ | refine blk_drew ?_ | refine blk_alloc ?_ _)); refine blk_put (cs := #[.int .i64 0, .int .i64 0]) ?_ 0 _ rfl; (with_reducible repeat (first | refine blk_drewN ?_ _ | refine blk_drew ?_ | refine blk_alloc ?_ _)); exact BK226.out⟩
            have n1_ : Aside0 (Below w.heap.size w ((w12.setCell ⟨gb226, 0, none⟩ (.int .i64 ((rd_T33 l0 x19_2).f0))).setCell ⟨gb226, 1, none⟩ (.int .i64 ((rd_T33 l0 x19_2).f1)))) := ⟨zb⟩
            (try clear BK226)
            (try clear HB)
            generalize ((w12.setCell ⟨gb226, 0, none⟩ (.int .i64 ((rd_T33 l0 x19_2).f0))).setCell ⟨gb226, 1, none⟩ (.int .i64 ((rd_T33 l0 x19_2).f1))) = w25 at n0_ n1_ ⊢
            have BK226 := n0_
            have HB := n1_
            clear n0_ n1_
            have n0_ := Aside0.mk (blk_drew BK226.out)
            have n1_ := Aside0.mk (below_drew1 HB.out)
            clear BK226
            clear HB
            have BK226 := n0_
            have HB := n1_
            clear n0_ n1_
            have q27 : (x19_2 : Int) ≤ ((l0.length : Int) : Int) := of_decide_eq_true (by first | (with_reducible assumption) | assumption)
            obtain ⟨i027, hi027, _, hsz27, _⟩ := info_parts info33
            have hroom27 : l0.length ≤ c0 := HC0.out
            have hC27 : Kd.C k33 _ (some ad225) l0.length l0 := HR0.out
            have hcut27 := cut_to (P := Tryd.prog) 26 33 .i64 Tryd.underlying26 hi027 (some ad225) l0.length c0 x19_2 (of_decide_eq_true (by first | (with_reducible assumption) | assumption)) q27 hroom27
            have hr27 := Kd.C_take (m := (x19_2 : Int).toNat) hC27 (by omega)
            have hy27 : y227.length = (x19_2 : Int).toNat := (by rw [Ny227.out, List.length_take]; omega)
            rw [← Ny227.out] at hr27
            rw [← hy27] at hcut27
            have HR230 := Aside0.mk hr27
            have HC230 := Aside0.mk (show y227.length ≤ c0 from by omega)
            clear hr27 hC27 hroom27 hi027 hsz27
            have KY27 := Aside0.mk hy27
            clear hy27
            replace q27 := eq_true q27
            refine start_ (n := 18) (S := fun w' => w'.cell? ⟨gb226, 0, none⟩ = some (.int .i64 ((rd_T33 l0 x19_2).f0)) ∧ w'.cell? ⟨gb226, 1, none⟩ = some (.int .i64 ((rd_T33 l0 x19_2).f1))) (ds := []) (zl 18 0) (by kernel_rfl) rfl rfl ⟨(blk_cell BK226.out 0).trans rfl, (blk_cell BK226.out 1).trans rfl⟩ (fun hHeld => ?_); refine with_tabW impl_IsPolygon.tab7 impl_IsPolygon.bits7 (fun HT_ HW_ => ?_)
            generalize w25.drew = w26 at BK226 HB HR230 hHeld ⊢
            refine zp 0 24 18 1 HT_ ?_
            refine zp 1 25 18 3 HT_ ?_
            refine zp 2 26 18 7 HT_ ?_
            refine take_ (i := 3) (N := some 27) (v := ?_) (a' := ?_) (zl 18 15) rfl rfl (take_ofW HT_.out HW_.out (by kernel_rfl)) (fun _ _ _ h => h) (Or.inl ⟨by rfl, ?_⟩) hHeld ?_ ?_
            rotate_left
            ·rintro w' ⟨s0, s1⟩
             go_simp
             with_reducible rfl
            rotate_left
            ·exact zs
            refine one_ (i := 4) (N := some 28) (zl 18 31) rfl rfl (one_of HT_.out (by kernel_rfl)) (by decide) (fun K hK => ?_)
            refine goes_ Tryd.func22 (by kernel_rfl) rfl #[.slice (some ad225) y227.length c0, .agg #[.int .i64 ((rd_T33 l0 x19_2).f0), .int .i64 ((rd_T33 l0 x19_2).f1)]] (by rfl) rfl rfl zn ?_
            with_reducible refine (impl_Peg_22.calls k2 _ _ y227 ((rd_T33 l0 x19_2).f0) ((rd_T33 l0 x19_2).f1) false _ ?side1 ?side2 A16.out).mono ?_
            (case side1 => repeat (first | exact (Kd.C_below HR230.out HB.out) | (with_reducible refine Kd.C_alloc ?_ _) | (with_reducible refine Kd.C_drewN ?_ _) | (with_reducible refine Kd.C_drew ?_)))
            (case side2 => exact HC230.out)
            rintro e w28 ⟨rfl, hb⟩
            refine ⟨_, rfl, ?_⟩
            have n0_ := Aside0.mk (blk_below (g := gb226) (o := .cells #[.int .i64 ((rd_T33 l0 x19_2).f0), .int .i64 ((rd_T33 l0 x19_2).f1)] 33 (0, 0)) zk hb)
            have n1_ := Aside0.mk (below_step zb hb)
            clear BK226
            clear HB
            have BK226 := n0_
            have HB := n1_
            clear n0_ n1_
            (try clear hb)
            (try clear hb2)
            (try clear hk)
            (try clear hi)
            refine hK.out _ _ ⟨(blk_cell BK226.out 0).trans rfl, (blk_cell BK226.out 1).trans rfl⟩ (fun hHeld => ?_)
            clear hK K
            refine norm_ (a' := ?_) ?_ ?_
            rotate_left
            ·show Act.put _ (some 28) _ = _
             exact zs
            refine zp 5 29 18 63 HT_ ?_
            refine zp 6 30 18 127 HT_ ?_
            refine zp 7 31 18 255 HT_ ?_
            refine zp 8 32 18 511 HT_ ?_
            refine zp 11 35 18 2559 HT_ ?_
            refine zp 12 36 18 6655 HT_ ?_
            refine zp 13 37 18 14847 HT_ ?_
            refine take_ (i := 10) (N := some 34) (v := ?_) (a' := ?_) (zl 18 15871) rfl rfl (take_ofW HT_.out HW_.out (by kernel_rfl)) (fun _ _ _ h => h) (Or.inl ⟨by rfl, ?_⟩) hHeld ?_ ?_
            rotate_left
            ·rintro w' ⟨s0, s1⟩
             go_simp
             with_reducible rfl
            rotate_left
            ·exact zs
            refine one_ (i := 9) (N := some 33) (zl 18 16383) rfl rfl (one_of HT_.out (by kernel_rfl)) (by decide) (fun K hK => ?_)
            refine goes_ Tryd.func24 (by kernel_rfl) rfl #[.slice (some ad225) l0.length c0, .int .i64 (wrap64 (x19_2 - 1))] (by rfl) rfl rfl zn ?_
            with_reducible refine (impl_at.calls _ _ l0 (wrap64 (x19_2 - 1)) t232 t233 _ ?side1 ?side2 A22.out).mono ?_
            (case side1 => repeat (first | exact (Kd.C_below HR0.out HB.out) | (with_reducible refine Kd.C_alloc ?_ _) | (with_reducible refine Kd.C_drewN ?_ _) | (with_reducible refine Kd.C_drew ?_)))
            (case side2 => exact HC0.out)
            rintro e w29 ⟨rfl, hb⟩
            refine ⟨_, rfl, ?_⟩
            have n0_ := Aside0.mk (blk_below (g := gb226) (o := .cells #[.int .i64 ((rd_T33 l0 x19_2).f0), .int .i64 ((rd_T33 l0 x19_2).f1)] 33 (0, 0)) zk hb)
            have n1_ := Aside0.mk (below_step zb hb)
            clear BK226
            clear HB
            have BK226 := n0_
            have HB := n1_
            clear n0_ n1_
            (try clear hb)
            (try clear hb2)
            (try clear hk)
            (try clear hi)
            refine hK.out _ _ ⟨(blk_cell BK226.out 0).trans rfl, (blk_cell BK226.out 1).trans rfl⟩ (fun hHeld => ?_)
            clear hK K
            refine norm_ (a' := ?_) ?_ ?_
            rotate_left
            ·show Act.put _ (some 33) _ = _
             exact zs
            refine one_ (i := 14) (N := some 38) (zl 18 32767) rfl rfl (one_of HT_.out (by kernel_rfl)) (by decide) (fun K hK => ?_)
            refine goes_ Tryd.func24 (by kernel_rfl) rfl #[.slice (some ad225) l0.length c0, .int .i64 (wrap64 (x19_2 + 1))] (by rfl) rfl rfl zn ?_
            with_reducible refine (impl_at.calls _ _ l0 (wrap64 (x19_2 + 1)) t234 t235 _ ?side1 ?side2 A23.out).mono ?_
            (case side1 => repeat (first | exact (Kd.C_below HR0.out HB.out) | (with_reducible refine Kd.C_alloc ?_ _) | (with_reducible refine Kd.C_drewN ?_ _) | (with_reducible refine Kd.C_drew ?_)))
            (case side2 => exact HC0.out)
            rintro e w30 ⟨rfl, hb⟩
            refine ⟨_, rfl, ?_⟩
            have n0_ := Aside0.mk (blk_below (g := gb226) (o := .cells #[.int .i64 ((rd_T33 l0 x19_2).f0), .int .i64 ((rd_T33 l0 x19_2).f1)] 33 (0, 0)) zk hb)
            have n1_ := Aside0.mk (below_step zb hb)
            clear BK226
            clear HB
            have BK226 := n0_
            have HB := n1_
            clear n0_ n1_
            (try clear hb)
            (try clear hb2)
            (try clear hk)
            (try clear hi)
            refine hK.out _ _ ⟨(blk_cell BK226.out 0).trans rfl, (blk_cell BK226.out 1).trans rfl⟩ (fun hHeld => ?_)
            clear hK K
            refine norm_ (a' := ?_) ?_ ?_
            rotate_left
            ·show Act.put _ (some 38) _ = _
             exact zs
            refine one_ (i := 15) (N := some 39) (zl 18 65535) rfl rfl (one_of HT_.out (by kernel_rfl)) (by decide) (fun K hK => ?_)
            refine goes_ Tryd.func23 (by kernel_rfl) rfl #[.agg #[.int .i64 t232, .int .i64 t233], .agg #[.int .i64 ((rd_T33 l0 x19_2).f0), .int .i64 ((rd_T33 l0 x19_2).f1)], .agg #[.int .i64 t234, .int .i64 t235]] (by rfl) rfl rfl zn ?_
            with_reducible refine (impl_turn.calls t232 t233 ((rd_T33 l0 x19_2).f0) ((rd_T33 l0 x19_2).f1) t234 t235 t236 _ A24.out).mono ?_
            rintro e w31 ⟨rfl, hb⟩
            refine ⟨_, rfl, ?_⟩
            have n0_ := Aside0.mk (blk_below (g := gb226) (o := .cells #[.int .i64 ((rd_T33 l0 x19_2).f0), .int .i64 ((rd_T33 l0 x19_2).f1)] 33 (0, 0)) zk hb)
            have n1_ := Aside0.mk (below_step zb hb)
            clear BK226
            clear HB
            have BK226 := n0_
            have HB := n1_
            clear n0_ n1_
            (try clear hb)
            (try clear hb2)
            (try clear hk)
            (try clear hi)
            refine hK.out _ _ ⟨(blk_cell BK226.out 0).trans rfl, (blk_cell BK226.out 1).trans rfl⟩ (fun hHeld => ?_)
            clear hK K
            refine norm_ (a' := ?_) ?_ ?_
            rotate_left
            ·show Act.put _ (some 39) _ = _
             exact zs
            refine zp 16 40 18 131071 HT_ ?_
            refine zp 17 41 18 262143 HT_ ?_
            refine done_ (done_of HT_.out (by kernel_rfl)) ?_
            try go_wp2
            go_meet
            case rel => exact ⟨_, ((t236 == 0)), (by first | rfl | (simp; done) | (simp [*]; done)), H', ⟨by have := HJ1.out; have := HK2.out; first | omega | exact Nat.le_refl _⟩, ⟨zk⟩, ⟨zb⟩⟩
          ·rw [if_neg c15] at H
           exact absurd H (by simp)
         case rest =>
          clear HC11
          try clear c1
          try clear c2
          try clear p2
          try clear q2
          try clear hx2
          try clear c4
          try clear p6
          try clear c7
          try clear c8
          try clear c8b0
          try clear c9
          try clear c9b0
          try clear c10
          try clear c10b0
          try clear c12
          try clear c14
          try clear c14b0
          try clear c15
          try clear c15b0
          try clear c15b1
          try clear c17
          try clear c20
          try clear q20
          try clear c22
          try clear p22
          try clear q22
          try clear hx22
          try clear c23
          try clear c24
          try clear q27
          try clear hcz13_0
          try clear hcz13_1
          try clear hfz13_0
          try clear hfz13_1
          try clear hx225_0
          try clear hx225_1
          try clear p2
          try clear p225
          try clear q20
          try clear q225
          try clear q27
          obtain ⟨kq, x41_10, rfl, HA, HJ10, BK226, HB⟩ := hcut
          cases kq with
          | zero => exact absurd HA.out (by simp [impl_IsPolygon.j2])
          | succ kj10 =>
           have H := HA.out
           clear HA
           simp only [impl_IsPolygon.j2] at H
           by_cases c32 : x41_10 = true
           ·subst c32
            have H1 : (some false) = some r := by rw [if_pos rfl] at H; exact H
            clear H
            have H := H1
            clear H1
            obtain rfl := Option.some.inj H
            go_wp2
            go_ret
            exact ⟨by first | rfl | (simp [errW_none, errW_some] <;> rfl) | (simp [*, errW_none, errW_some] <;> rfl), zb⟩
           ·replace c32 := Bool.eq_false_iff.mpr c32
            subst c32
            have H1 : (impl_IsPolygon.l1 kj10 l0 (l0.length : Int) x19_2 l0 (l0.length : Int) x19_2 x19_2 0 ((rd_T33 l0 x19_2).f0) ((rd_T33 l0 x19_2).f1)) = some r := by rw [if_neg (show ¬ (false = true) by decide)] at H; exact H
            clear H
            have H := H1
            clear H1
            have H' := Aside0.mk H
            clear H
            go_wp2
            go_loopg [43] kj10 (fun kq v43 w' => ∃ (x43_4 : Int), v43 = .int .i64 x43_4 ∧ Aside0 (impl_IsPolygon.l1 kq l0 (l0.length : Int) x19_2 l0 (l0.length : Int) x19_2 x19_2 x43_4 ((rd_T33 l0 x19_2).f0) ((rd_T33 l0 x19_2).f1) = some r) ∧ Aside0 (kq ≤ kj10) ∧ Aside0 (w'.heap[gb226]? = some (.cells #[.int .i64 ((rd_T33 l0 x19_2).f0), .int .i64 ((rd_T33 l0 x19_2).f1)] 33 (0, 0))) ∧ Aside0 (Below w.heap.size w w'))
            case atStart => exact ⟨(0), (by first | rfl | (simp; done) | (simp [*]; done)), H', ⟨Nat.le_refl _⟩, ⟨zk⟩, ⟨zb⟩⟩
            case round =>
             clear H'
             try clear c1
             try clear c2
             try clear p2
             try clear q2
             try clear hx2
             try clear c3
             try clear c4
             try clear p6
             try clear c7
             try clear c8
             try clear c8b0
             try clear c9
             try clear c9b0
             try clear c10
             try clear c10b0
             try clear c12
             try clear c14
             try clear c14b0
             try clear c15
             try clear c15b0
             try clear c15b1
             try clear c17
             try clear c20
             try clear q20
             try clear c22
             try clear p22
             try clear q22
             try clear hx22
             try clear c23
             try clear c24
             try clear q27
             try clear c32
             try clear hcz13_0
             try clear hcz13_1
             try clear hfz13_0
             try clear hfz13_1
             try clear hx225_0
             try clear hx225_1
             try clear p2
             try clear p22
             try clear p225
             try clear p6
             try clear q2
             try clear q20
             try clear q22
             try clear q225
             try clear q27
             obtain ⟨x43_4, rfl, HA, HK4, BK226, HB⟩ := hrel
             cases gk with
             | zero => exact absurd HA.out (by simp [impl_IsPolygon.l1])
             | succ k4 =>
              have H := HA.out
              clear HA
              simp only [impl_IsPolygon.l1] at H
              by_cases c33 : x43_4 < x19_2
              ·rw [if_pos c33] at H
               have c33b0 : decide (x43_4 < x19_2) = true := decide_eq_true c33
               clear c33
               have HC34 := Aside0.mk H
               clear H
               go_upto_region 12 with (fail)
               go_cut [59] (fun v59 wc => ∃ (kq : Nat) (x59_33 : Bool), v59 = .bool x59_33 ∧ Aside0 (impl_IsPolygon.j4 kq l0 (l0.length : Int) x19_2 x43_4 l0 (l0.length : Int) x19_2 x19_2 x43_4 x59_33 ((rd_T33 l0 x19_2).f0) ((rd_T33 l0 x19_2).f1) = some r) ∧ Aside0 (kq ≤ k4) ∧ Aside0 (wc.heap[gb226]? = some (.cells #[.int .i64 ((rd_T33 l0 x19_2).f0), .int .i64 ((rd_T33 l0 x19_2).f1)] 33 (0, 0))) ∧ Aside0 (Below w.heap.size w wc))
               case first =>
                have H := HC34.out
                clear HC34
                by_cases c35 : (wrap64 (x43_4 + 1)) = x19_2
                ·rw [if_pos c35] at H
                 have c35b0 : ((wrap64 (x43_4 + 1)) == x19_2) = true := beq_iff_eq.mpr c35
                 have c35b1 : ((wrap64 (x43_4 + 1)) != x19_2) = false := bne_eq_false_iff_eq.mpr c35
                 clear c35
                 (first | rw [c35b0] | (simp only [i64_w, i32_w]; rw [c35b0]) | skip)
                 have H' := Aside0.mk H
                 clear H
                 go_wp2
                 go_meet
                 case rel => exact ⟨_, (true), (by first | rfl | (simp; done) | (simp [*]; done)), H', ⟨by have := HJ1.out; have := HK2.out; have := HJ10.out; have := HK4.out; first | omega | exact Nat.le_refl _⟩, ⟨zk⟩, ⟨zb⟩⟩
                ·rw [if_neg c35] at H
                 have c35b0 : ((wrap64 (x43_4 + 1)) == x19_2) = false := beq_eq_false_iff_ne.mpr c35
                 have c35b1 : ((wrap64 (x43_4 + 1)) != x19_2) = true := bne_iff_ne.mpr c35
                 (first | rw [c35b0] | (simp only [i64_w, i32_w]; rw [c35b0]) | skip)
                 by_cases c36 : (wrap64 (x19_2 + 1)) = (l0.length : Int)
                 ·rw [if_pos c36] at H
                  have c36b0 : ((wrap64 (x19_2 + 1)) == (l0.length : Int)) = true := beq_iff_eq.mpr c36
                  have c36b1 : ((wrap64 (x19_2 + 1)) != (l0.length : Int)) = false := bne_eq_false_iff_eq.mpr c36
                  clear c36
                  have H' := Aside0.mk H
                  clear H
                  go_wp2
                  go_meet
                  case rel => exact ⟨_, ((x43_4 == 0)), (by first | rfl | (simp; done) | (simp [*]; done)), H', ⟨by have := HJ1.out; have := HK2.out; have := HJ10.out; have := HK4.out; first | omega | exact Nat.le_refl _⟩, ⟨zk⟩, ⟨zb⟩⟩
                 ·rw [if_neg c36] at H
                  have c36b0 : ((wrap64 (x19_2 + 1)) == (l0.length : Int)) = false := beq_eq_false_iff_ne.mpr c36
                  have c36b1 : ((wrap64 (x19_2 + 1)) != (l0.length : Int)) = true := bne_iff_ne.mpr c36
                  have H' := Aside0.mk H
                  clear H
                  go_wp2
                  go_meet
                  case rel => exact ⟨_, (false), (by first | rfl | (simp; done) | (simp [*]; done)), H', ⟨by have := HJ1.out; have := HK2.out; have := HJ10.out; have := HK4.out; first | omega | exact Nat.le_refl _⟩, ⟨zk⟩, ⟨zb⟩⟩
               case rest =>
                clear HC34
                try clear c1
                try clear c2
                try clear p2
                try clear q2
                try clear hx2
                try clear c3
                try clear c4
                try clear p6
                try clear c7
                try clear c8
                try clear c8b0
                try clear c9
                try clear c9b0
                try clear c10
                try clear c10b0
                try clear c12
                try clear c14
                try clear c14b0
                try clear c15
                try clear c15b0
                try clear c15b1
                try clear c17
                try clear c20
                try clear q20
                try clear c22
                try clear p22
                try clear q22
                try clear hx22
                try clear c23
                try clear c24
                try clear q27
                try clear c32
                try clear c33
                try clear c33b0
                try clear c35
                try clear c35b0
                try clear c35b1
                try clear c36
                try clear c36b0
                try clear c36b1
                try clear hcz13_0
                try clear hcz13_1
                try clear hfz13_0
                try clear hfz13_1
                try clear hx225_0
                try clear hx225_1
                try clear p2
                try clear p22
                try clear p225
                try clear p6
                try clear q2
                try clear q20
                try clear q22
                try clear q225
                try clear q27
                obtain ⟨kq, x59_33, rfl, HA, HJ33, BK226, HB⟩ := hcut
                cases kq with
                | zero => exact absurd HA.out (by simp [impl_IsPolygon.j4])
                | succ kj33 =>
                 have H := HA.out
                 clear HA
                 simp only [impl_IsPolygon.j4] at H
                 by_cases c37 : x59_33 = true
                 ·subst c37
                  have H1 : (impl_IsPolygon.l1 kj33 l0 (l0.length : Int) x19_2 l0 (l0.length : Int) x19_2 x19_2 (wrap64 (x43_4 + 1)) ((rd_T33 l0 x19_2).f0) ((rd_T33 l0 x19_2).f1)) = some r := by rw [if_pos rfl] at H; exact H
                  clear H
                  have H := H1
                  clear H1
                  have H' := Aside0.mk H
                  clear H
                  go_wp2
                  go_roundg kj33
                  case measure => have := HJ1.out; have := HK2.out; have := HJ10.out; have := HK4.out; have := HJ33.out; omega
                  case rel => exact ⟨(wrap64 (x43_4 + 1)), (by first | rfl | (simp; done) | (simp [*]; done)), H', ⟨by have := HJ1.out; have := HK2.out; have := HJ10.out; have := HK4.out; have := HJ33.out; omega⟩, ⟨zk⟩, ⟨zb⟩⟩
                 ·replace c37 := Bool.eq_false_iff.mpr c37
                  subst c37
                  have H1 : (if 0 ≤ x43_4 then (if x43_4 < (l0.length : Int) then (if 0 ≤ (wrap64 (x43_4 + 1)) then (if (wrap64 (x43_4 + 1)) < (l0.length : Int) then ((impl_at.f l0 (wrap64 (x19_2 + 1))).bind fun bt239 => ((impl_meet.f kj33 ((rd_T33 l0 x43_4).f0) ((rd_T33 l0 x43_4).f1) ((rd_T33 l0 (wrap64 (x43_4 + 1))).f0) ((rd_T33 l0 (wrap64 (x43_4 + 1))).f1) ((rd_T33 l0 x19_2).f0) ((rd_T33 l0 x19_2).f1) bt239.1 bt239.2).bind fun t241 => (if t241 = true then (some false) else (impl_IsPolygon.l1 kj33 l0 (l0.length : Int) x19_2 l0 (l0.length : Int) x19_2 x19_2 (wrap64 (x43_4 + 1)) ((rd_T33 l0 x19_2).f0) ((rd_T33 l0 x19_2).f1))))) else (none)) else (none)) else (none)) else (none)) = some r := by rw [if_neg (show ¬ (false = true) by decide)] at H; exact H
                  clear H
                  have H := H1
                  clear H1
                  by_cases c38 : 0 ≤ x43_4
                  ·rw [if_pos c38] at H
                   have c38b0 : decide (0 ≤ x43_4) = true := decide_eq_true c38
                   clear c38
                   by_cases c39 : x43_4 < (l0.length : Int)
                   ·rw [if_pos c39] at H
                    have c39b0 : decide (x43_4 < (l0.length : Int)) = true := decide_eq_true c39
                    clear c39
                    obtain ⟨ji40, hji40⟩ : ∃ j_ : Int, (wrap64 (x43_4 + 1)) = j_ := ⟨_, rfl⟩
                    replace H : (if 0 ≤ (ji40) then (if (ji40) < (l0.length : Int) then ((impl_at.f l0 (wrap64 (x19_2 + 1))).bind fun bt239 => ((impl_meet.f kj33 ((rd_T33 l0 x43_4).f0) ((rd_T33 l0 x43_4).f1) ((rd_T33 l0 (ji40)).f0) ((rd_T33 l0 (ji40)).f1) ((rd_T33 l0 x19_2).f0) ((rd_T33 l0 x19_2).f1) bt239.1 bt239.2).bind fun t241 => (if t241 = true then (some false) else (impl_IsPolygon.l1 kj33 l0 (l0.length : Int) x19_2 l0 (l0.length : Int) x19_2 x19_2 ji40 ((rd_T33 l0 x19_2).f0) ((rd_T33 l0 x19_2).f1))))) else (none)) else (none)) = some r := by first | (rw [hji40] at H; exact H) | (simp only [hji40] at H ⊢; exact H)
                    have hji40w : (IntKind.i64.wrap (x43_4 + 1)) = ji40 := (i64_w _).trans hji40
                    by_cases c41 : 0 ≤ (ji40)
                    ·rw [if_pos c41] at H
                     have c41b0 : decide (0 ≤ (ji40)) = true := decide_eq_true c41
                     clear c41
                     by_cases c42 : (ji40) < (l0.length : Int)
                     ·rw [if_pos c42] at H
                      have c42b0 : decide ((ji40) < (l0.length : Int)) = true := decide_eq_true c42
                      clear c42
                      replace H := Option.bind_eq_some_iff.mp H
                      obtain ⟨⟨t239, t240⟩, A430, H⟩ := H
                      replace H : ((impl_meet.f kj33 ((rd_T33 l0 x43_4).f0) ((rd_T33 l0 x43_4).f1) ((rd_T33 l0 (ji40)).f0) ((rd_T33 l0 (ji40)).f1) ((rd_T33 l0 x19_2).f0) ((rd_T33 l0 x19_2).f1) t239 t240).bind fun t241 => (if t241 = true then (some false) else (impl_IsPolygon.l1 kj33 l0 (l0.length : Int) x19_2 l0 (l0.length : Int) x19_2 x19_2 ji40 ((rd_T33 l0 x19_2).f0) ((rd_T33 l0 x19_2).f1)))) = some r := H
                      have A43 := Aside0.mk A430
                      clear A430
                      replace H := Option.bind_eq_some_iff.mp H
                      obtain ⟨t241, A440, H⟩ := H
                      replace H : (if t241 = true then (some false) else (impl_IsPolygon.l1 kj33 l0 (l0.length : Int) x19_2 l0 (l0.length : Int) x19_2 x19_2 ji40 ((rd_T33 l0 x19_2).f0) ((rd_T33 l0 x19_2).f1))) = some r := H
                      have A44 := Aside0.mk A440
                      clear A440
                      by_cases c45 : t241 = true
                      ·subst c45
                       have H1 : (some false) = some r := by rw [if_pos rfl] at H; exact H
                       clear H
                       have H := H1
                       clear H1
                       obtain rfl := Option.some.inj H
                       try go_wp2
                       have n0_ := Aside0.mk (blk_drew BK226.out)
                       have n1_ := Aside0.mk (below_drew1 HB.out)
                       clear BK226
                       clear HB
                       have BK226 := n0_
                       have HB := n1_
                       clear n0_ n1_
                       have p237 : 0 ≤ (x43_4 : Int) := of_decide_eq_true (by first | (with_reducible assumption) | assumption)
                       have q237 : x43_4 < (l0.length : Int) := of_decide_eq_true (by first | (with_reducible assumption) | assumption)
                       obtain ⟨ad237, e237, hx237_0, hx237_1⟩ := at_T33 HR0.out x43_4 p237 q237
                       have hw237_1 := hx237_1
                       have hw237_0 := hx237_0
                       obtain rfl : ad225 = ad237 := (by injection e237)
                       replace hx237_0 := zc HB hx237_0
                       replace hx237_1 := zc HB hx237_1
                       replace p237 := eq_true p237
                       replace q237 := eq_true q237
                       have p238 : 0 ≤ ((ji40) : Int) := of_decide_eq_true (by first | (with_reducible assumption) | assumption)
                       have q238 : (ji40) < (l0.length : Int) := of_decide_eq_true (by first | (with_reducible assumption) | assumption)
                       obtain ⟨ad238, e238, hx238_0, hx238_1⟩ := at_T33 HR0.out (ji40) p238 q238
                       have hw238_1 := hx238_1
                       have hw238_0 := hx238_0
                       obtain rfl : ad225 = ad238 := (by injection e238)
                       replace hx238_0 := zc HB hx238_0
                       replace hx238_1 := zc HB hx238_1
                       replace p238 := eq_true p238
                       replace q238 := eq_true q238
                       refine start_ (n := 15) (S := fun w' => w'.cell? ⟨gb226, 0, none⟩ = some (.int .i64 ((rd_T33 l0 x19_2).f0)) ∧ w'.cell? ⟨gb226, 1, none⟩ = some (.int .i64 ((rd_T33 l0 x19_2).f1)) ∧ w'.cell? (ad225.add ((x43_4).toNat * 2)) = some (.int .i64 ((rd_T33 l0 x43_4).f0)) ∧ w'.cell? ⟨(ad225.add ((x43_4).toNat * 2)).block, (ad225.add ((x43_4).toNat * 2)).off + 1, none⟩ = some (.int .i64 ((rd_T33 l0 x43_4).f1)) ∧ w'.cell? (ad225.add (((ji40)).toNat * 2)) = some (.int .i64 ((rd_T33 l0 (ji40)).f0)) ∧ w'.cell? ⟨(ad225.add (((ji40)).toNat * 2)).block, (ad225.add (((ji40)).toNat * 2)).off + 1, none⟩ = some (.int .i64 ((rd_T33 l0 (ji40)).f1))) (ds := []) (zl 15 0) (by kernel_rfl) rfl rfl ⟨(blk_cell BK226.out 0).trans rfl, (blk_cell BK226.out 1).trans rfl, (zc HB hw237_0), (zc HB hw237_1), (zc HB hw238_0), (zc HB hw238_1)⟩ (fun hHeld => ?_); refine with_tabW impl_IsPolygon.tab13 impl_IsPolygon.bits13 (fun HT_ HW_ => ?_)
                       generalize wc.drew = w46 at BK226 HB hx237_0 hx237_1 hx238_0 hx238_1 hHeld ⊢
                       refine zp 0 60 15 1 HT_ ?_
                       refine zp 1 61 15 3 HT_ ?_
                       refine zp 2 62 15 7 HT_ ?_
                       refine zp 4 64 15 23 HT_ ?_
                       refine zp 5 65 15 55 HT_ ?_
                       refine zp 6 66 15 119 HT_ ?_
                       refine zp 7 67 15 247 HT_ ?_
                       refine zp 10 70 15 1271 HT_ ?_
                       refine zp 11 71 15 3319 HT_ ?_
                       refine zp 12 72 15 7415 HT_ ?_
                       refine take_ (i := 3) (N := some 63) (v := ?_) (a' := ?_) (zl 15 7423) rfl rfl (take_ofW HT_.out HW_.out (by kernel_rfl)) (fun _ _ _ h => h) (Or.inl ⟨by rfl, ?_⟩) hHeld ?_ ?_
                       rotate_left
                       ·rintro w' ⟨s0, s1, s2, s3, s4, s5⟩
                        go_simp
                        with_reducible rfl
                       rotate_left
                       ·exact zs
                       refine take_ (i := 8) (N := some 68) (v := ?_) (a' := ?_) (zl 15 7679) rfl rfl (take_ofW HT_.out HW_.out (by kernel_rfl)) (fun _ _ _ h => h) (Or.inl ⟨by rfl, ?_⟩) hHeld ?_ ?_
                       rotate_left
                       ·rintro w' ⟨s0, s1, s2, s3, s4, s5⟩
                        go_simp
                        with_reducible rfl
                       rotate_left
                       ·exact zs
                       refine take_ (i := 9) (N := some 69) (v := ?_) (a' := ?_) (zl 15 8191) rfl rfl (take_ofW HT_.out HW_.out (by kernel_rfl)) (fun _ _ _ h => h) (Or.inl ⟨by rfl, ?_⟩) hHeld ?_ ?_
                       rotate_left
                       ·rintro w' ⟨s0, s1, s2, s3, s4, s5⟩
                        go_simp
                        with_reducible rfl
                       rotate_left
                       ·exact zs
                       refine one_ (i := 13) (N := some 73) (zl 15 16383) rfl rfl (one_of HT_.out (by kernel_rfl)) (by decide) (fun K hK => ?_)
                       refine goes_ Tryd.func24 (by kernel_rfl) rfl #[.slice (some ad225) l0.length c0, .int .i64 (wrap64 (x19_2 + 1))] (by rfl) rfl rfl zn ?_
                       with_reducible refine (impl_at.calls _ _ l0 (wrap64 (x19_2 + 1)) t239 t240 _ ?side1 ?side2 A43.out).mono ?_
                       (case side1 => repeat (first | exact (Kd.C_below HR0.out HB.out) | (with_reducible refine Kd.C_alloc ?_ _) | (with_reducible refine Kd.C_drewN ?_ _) | (with_reducible refine Kd.C_drew ?_)))
                       (case side2 => exact HC0.out)
                       rintro e w47 ⟨rfl, hb⟩
                       refine ⟨_, rfl, ?_⟩
                       have n0_ := Aside0.mk (blk_below (g := gb226) (o := .cells #[.int .i64 ((rd_T33 l0 x19_2).f0), .int .i64 ((rd_T33 l0 x19_2).f1)] 33 (0, 0)) zk hb)
                       have n1_ := Aside0.mk (below_step zb hb)
                       clear BK226
                       clear HB
                       have BK226 := n0_
                       have HB := n1_
                       clear n0_ n1_
                       (try clear hb)
                       (try clear hb2)
                       (try clear hk)
                       (try clear hi)
                       refine hK.out _ _ ⟨(blk_cell BK226.out 0).trans rfl, (blk_cell BK226.out 1).trans rfl, (zc HB hw237_0), (zc HB hw237_1), (zc HB hw238_0), (zc HB hw238_1)⟩ (fun hHeld => ?_)
                       clear hK K
                       refine norm_ (a' := ?_) ?_ ?_
                       rotate_left
                       ·show Act.put _ (some 73) _ = _
                        exact zs
                       refine one_ (i := 14) (N := some 74) (zl 15 32767) rfl rfl (one_of HT_.out (by kernel_rfl)) (by decide) (fun K hK => ?_)
                       refine goes_ Tryd.func25 (by kernel_rfl) rfl #[.agg #[.int .i64 ((rd_T33 l0 x43_4).f0), .int .i64 ((rd_T33 l0 x43_4).f1)], .agg #[.int .i64 ((rd_T33 l0 (ji40)).f0), .int .i64 ((rd_T33 l0 (ji40)).f1)], .agg #[.int .i64 ((rd_T33 l0 x19_2).f0), .int .i64 ((rd_T33 l0 x19_2).f1)], .agg #[.int .i64 t239, .int .i64 t240]] (by rfl) rfl rfl (by (try simp only [List.map_toArray, List.map_cons, List.map_nil]); first | done | (simp only [hji40]; rfl) | rfl | (simp only [List.length_drop, List.length_take]; rfl)) ?_
                       with_reducible refine (impl_meet.calls kj33 ((rd_T33 l0 x43_4).f0) ((rd_T33 l0 x43_4).f1) ((rd_T33 l0 (ji40)).f0) ((rd_T33 l0 (ji40)).f1) ((rd_T33 l0 x19_2).f0) ((rd_T33 l0 x19_2).f1) t239 t240 true _ A44.out).mono ?_
                       rintro e w48 ⟨rfl, hb⟩
                       refine ⟨_, rfl, ?_⟩
                       have n0_ := Aside0.mk (blk_below (g := gb226) (o := .cells #[.int .i64 ((rd_T33 l0 x19_2).f0), .int .i64 ((rd_T33 l0 x19_2).f1)] 33 (0, 0)) zk hb)
                       have n1_ := Aside0.mk (below_step zb hb)
                       clear BK226
                       clear HB
                       have BK226 := n0_
                       have HB := n1_
                       clear n0_ n1_
                       (try clear hb)
                       (try clear hb2)
                       (try clear hk)
                       (try clear hi)
                       refine hK.out _ _ ⟨(blk_cell BK226.out 0).trans rfl, (blk_cell BK226.out 1).trans rfl, (zc HB hw237_0), (zc HB hw237_1), (zc HB hw238_0), (zc HB hw238_1)⟩ (fun hHeld => ?_)
                       clear hK K
                       refine norm_ (a' := ?_) ?_ ?_
                       rotate_left
                       ·show Act.put _ (some 74) _ = _
                        exact zs
                       refine done_ (done_of HT_.out (by kernel_rfl)) ?_
                       try go_wp2
                       go_ret
                       exact ⟨by first | rfl | (simp [errW_none, errW_some] <;> rfl) | (simp only [← hji40]; first | rfl | (simp [errW_none, errW_some] <;> rfl)) | (simp [*, errW_none, errW_some] <;> rfl), zb⟩
                      ·replace c45 := Bool.eq_false_iff.mpr c45
                       subst c45
                       have H1 : (impl_IsPolygon.l1 kj33 l0 (l0.length : Int) x19_2 l0 (l0.length : Int) x19_2 x19_2 ji40 ((rd_T33 l0 x19_2).f0) ((rd_T33 l0 x19_2).f1)) = some r := by rw [if_neg (show ¬ (false = true) by decide)] at H; exact H
                       clear H
                       have H := H1
                       clear H1
                       have H' := Aside0.mk H
                       clear H
                       try go_wp2
                       have n0_ := Aside0.mk (blk_drew BK226.out)
                       have n1_ := Aside0.mk (below_drew1 HB.out)
                       clear BK226
                       clear HB
                       have BK226 := n0_
                       have HB := n1_
                       clear n0_ n1_
                       have p237 : 0 ≤ (x43_4 : Int) := of_decide_eq_true (by first | (with_reducible assumption) | assumption)
                       have q237 : x43_4 < (l0.length : Int) := of_decide_eq_true (by first | (with_reducible assumption) | assumption)
                       obtain ⟨ad237, e237, hx237_0, hx237_1⟩ := at_T33 HR0.out x43_4 p237 q237
                       have hw237_1 := hx237_1
                       have hw237_0 := hx237_0
                       obtain rfl : ad225 = ad237 := (by injection e237)
                       replace hx237_0 := zc HB hx237_0
                       replace hx237_1 := zc HB hx237_1
                       replace p237 := eq_true p237
                       replace q237 := eq_true q237
                       have p238 : 0 ≤ ((ji40) : Int) := of_decide_eq_true (by first | (with_reducible assumption) | assumption)
                       have q238 : (ji40) < (l0.length : Int) := of_decide_eq_true (by first | (with_reducible assumption) | assumption)
                       obtain ⟨ad238, e238, hx238_0, hx238_1⟩ := at_T33 HR0.out (ji40) p238 q238
                       have hw238_1 := hx238_1
                       have hw238_0 := hx238_0
                       obtain rfl : ad225 = ad238 := (by injection e238)
                       replace hx238_0 := zc HB hx238_0
                       replace hx238_1 := zc HB hx238_1
                       replace p238 := eq_true p238
                       replace q238 := eq_true q238
                       refine start_ (n := 15) (S := fun w' => w'.cell? ⟨gb226, 0, none⟩ = some (.int .i64 ((rd_T33 l0 x19_2).f0)) ∧ w'.cell? ⟨gb226, 1, none⟩ = some (.int .i64 ((rd_T33 l0 x19_2).f1)) ∧ w'.cell? (ad225.add ((x43_4).toNat * 2)) = some (.int .i64 ((rd_T33 l0 x43_4).f0)) ∧ w'.cell? ⟨(ad225.add ((x43_4).toNat * 2)).block, (ad225.add ((x43_4).toNat * 2)).off + 1, none⟩ = some (.int .i64 ((rd_T33 l0 x43_4).f1)) ∧ w'.cell? (ad225.add (((ji40)).toNat * 2)) = some (.int .i64 ((rd_T33 l0 (ji40)).f0)) ∧ w'.cell? ⟨(ad225.add (((ji40)).toNat * 2)).block, (ad225.add (((ji40)).toNat * 2)).off + 1, none⟩ = some (.int .i64 ((rd_T33 l0 (ji40)).f1))) (ds := []) (zl 15 0) (by kernel_rfl) rfl rfl ⟨(blk_cell BK226.out 0).trans rfl, (blk_cell BK226.out 1).trans rfl, (zc HB hw237_0), (zc HB hw237_1), (zc HB hw238_0), (zc HB hw238_1)⟩ (fun hHeld => ?_); refine with_tabW impl_IsPolygon.tab13 impl_IsPolygon.bits13 (fun HT_ HW_ => ?_)
                       generalize wc.drew = w49 at BK226 HB hx237_0 hx237_1 hx238_0 hx238_1 hHeld ⊢
                       refine zp 0 60 15 1 HT_ ?_
                       refine zp 1 61 15 3 HT_ ?_
                       refine zp 2 62 15 7 HT_ ?_
                       refine zp 4 64 15 23 HT_ ?_
                       refine zp 5 65 15 55 HT_ ?_
                       refine zp 6 66 15 119 HT_ ?_
                       refine zp 7 67 15 247 HT_ ?_
                       refine zp 10 70 15 1271 HT_ ?_
                       refine zp 11 71 15 3319 HT_ ?_
                       refine zp 12 72 15 7415 HT_ ?_
                       refine take_ (i := 3) (N := some 63) (v := ?_) (a' := ?_) (zl 15 7423) rfl rfl (take_ofW HT_.out HW_.out (by kernel_rfl)) (fun _ _ _ h => h) (Or.inl ⟨by rfl, ?_⟩) hHeld ?_ ?_
                       rotate_left
                       ·rintro w' ⟨s0, s1, s2, s3, s4, s5⟩
                        go_simp
                        with_reducible rfl
                       rotate_left
                       ·exact zs
                       refine take_ (i := 8) (N := some 68) (v := ?_) (a' := ?_) (zl 15 7679) rfl rfl (take_ofW HT_.out HW_.out (by kernel_rfl)) (fun _ _ _ h => h) (Or.inl ⟨by rfl, ?_⟩) hHeld ?_ ?_
                       rotate_left
                       ·rintro w' ⟨s0, s1, s2, s3, s4, s5⟩
                        go_simp
                        with_reducible rfl
                       rotate_left
                       ·exact zs
                       refine take_ (i := 9) (N := some 69) (v := ?_) (a' := ?_) (zl 15 8191) rfl rfl (take_ofW HT_.out HW_.out (by kernel_rfl)) (fun _ _ _ h => h) (Or.inl ⟨by rfl, ?_⟩) hHeld ?_ ?_
                       rotate_left
                       ·rintro w' ⟨s0, s1, s2, s3, s4, s5⟩
                        go_simp
                        with_reducible rfl
                       rotate_left
                       ·exact zs
                       refine one_ (i := 13) (N := some 73) (zl 15 16383) rfl rfl (one_of HT_.out (by kernel_rfl)) (by decide) (fun K hK => ?_)
                       refine goes_ Tryd.func24 (by kernel_rfl) rfl #[.slice (some ad225) l0.length c0, .int .i64 (wrap64 (x19_2 + 1))] (by rfl) rfl rfl zn ?_
                       with_reducible refine (impl_at.calls _ _ l0 (wrap64 (x19_2 + 1)) t239 t240 _ ?side1 ?side2 A43.out).mono ?_
                       (case side1 => repeat (first | exact (Kd.C_below HR0.out HB.out) | (with_reducible refine Kd.C_alloc ?_ _) | (with_reducible refine Kd.C_drewN ?_ _) | (with_reducible refine Kd.C_drew ?_)))
                       (case side2 => exact HC0.out)
                       rintro e w50 ⟨rfl, hb⟩
                       refine ⟨_, rfl, ?_⟩
                       have n0_ := Aside0.mk (blk_below (g := gb226) (o := .cells #[.int .i64 ((rd_T33 l0 x19_2).f0), .int .i64 ((rd_T33 l0 x19_2).f1)] 33 (0, 0)) zk hb)
                       have n1_ := Aside0.mk (below_step zb hb)
                       clear BK226
                       clear HB
                       have BK226 := n0_
                       have HB := n1_
                       clear n0_ n1_
                       (try clear hb)
                       (try clear hb2)
                       (try clear hk)
                       (try clear hi)
                       refine hK.out _ _ ⟨(blk_cell BK226.out 0).trans rfl, (blk_cell BK226.out 1).trans rfl, (zc HB hw237_0), (zc HB hw237_1), (zc HB hw238_0), (zc HB hw238_1)⟩ (fun hHeld => ?_)
                       clear hK K
                       refine norm_ (a' := ?_) ?_ ?_
                       rotate_left
                       ·show Act.put _ (some 73) _ = _
                        exact zs
                       refine one_ (i := 14) (N := some 74) (zl 15 32767) rfl rfl (one_of HT_.out (by kernel_rfl)) (by decide) (fun K hK => ?_)
                       refine goes_ Tryd.func25 (by kernel_rfl) rfl #[.agg #[.int .i64 ((rd_T33 l0 x43_4).f0), .int .i64 ((rd_T33 l0 x43_4).f1)], .agg #[.int .i64 ((rd_T33 l0 (ji40)).f0), .int .i64 ((rd_T33 l0 (ji40)).f1)], .agg #[.int .i64 ((rd_T33 l0 x19_2).f0), .int .i64 ((rd_T33 l0 x19_2).f1)], .agg #[.int .i64 t239, .int .i64 t240]] (by rfl) rfl rfl (by (try simp only [List.map_toArray, List.map_cons, List.map_nil]); first | done | (simp only [hji40]; rfl) | rfl | (simp only [List.length_drop, List.length_take]; rfl)) ?_
                       with_reducible refine (impl_meet.calls kj33 ((rd_T33 l0 x43_4).f0) ((rd_T33 l0 x43_4).f1) ((rd_T33 l0 (ji40)).f0) ((rd_T33 l0 (ji40)).f1) ((rd_T33 l0 x19_2).f0) ((rd_T33 l0 x19_2).f1) t239 t240 false _ A44.out).mono ?_
                       rintro e w51 ⟨rfl, hb⟩
                       refine ⟨_, rfl, ?_⟩
                       have n0_ := Aside0.mk (blk_below (g := gb226) (o := .cells #[.int .i64 ((rd_T33 l0 x19_2).f0), .int .i64 ((rd_T33 l0 x19_2).f1)] 33 (0, 0)) zk hb)
                       have n1_ := Aside0.mk (below_step zb hb)
                       clear BK226
                       clear HB
                       have BK226 := n0_
                       have HB := n1_
                       clear n0_ n1_
                       (try clear hb)
                       (try clear hb2)
                       (try clear hk)
                       (try clear hi)
                       refine hK.out _ _ ⟨(blk_cell BK226.out 0).trans rfl, (blk_cell BK226.out 1).trans rfl, (zc HB hw237_0), (zc HB hw237_1), (zc HB hw238_0), (zc HB hw238_1)⟩ (fun hHeld => ?_)
                       clear hK K
                       refine norm_ (a' := ?_) ?_ ?_
                       rotate_left
                       ·show Act.put _ (some 74) _ = _
                        exact zs
                       refine done_ (done_of HT_.out (by kernel_rfl)) ?_
                       try go_wp2
                       go_roundg kj33
                       case measure => have := HJ1.out; have := HK2.out; have := HJ10.out; have := HK4.out; have := HJ33.out; omega
                       case rel => exact ⟨(ji40), (by first | rfl | (simp; done) | (simp only [← hji40] <;> (first | rfl | simp)) | (simp [*]; done)), H', ⟨by have := HJ1.out; have := HK2.out; have := HJ10.out; have := HK4.out; have := HJ33.out; omega⟩, ⟨zk⟩, ⟨zb⟩⟩
                     ·rw [if_neg c42] at H
                      exact absurd H (by simp)
                    ·rw [if_neg c41] at H
                     exact absurd H (by simp)
                   ·rw [if_neg c39] at H
                    exact absurd H (by simp)
                  ·rw [if_neg c38] at H
                   exact absurd H (by simp)
              ·rw [if_neg c33] at H
               have c33b0 : decide (x43_4 < x19_2) = false := decide_eq_false c33
               clear c33
               have H' := Aside0.mk H
               clear H
               go_wp2
               go_roundg k4
               case measure => have := HJ1.out; have := HK2.out; have := HJ10.out; have := HK4.out; omega
               case rel => exact ⟨(wrap64 (x19_2 + 1)), (by first | rfl | (simp; done) | (simp [*]; done)), H', ⟨by have := HJ1.out; have := HK2.out; have := HJ10.out; have := HK4.out; omega⟩, ⟨zb⟩⟩
        ·rw [if_neg c10] at H
         exact absurd H (by simp)
       ·rw [if_neg c9] at H
        exact absurd H (by simp)
      ·rw [if_neg c8] at H
       have c8b0 : decide (x19_2 < (l0.length : Int)) = false := decide_eq_false c8
       clear c8
       obtain rfl := Option.some.inj H
       go_wp2
       go_ret
       exact ⟨by first | rfl | (simp [errW_none, errW_some] <;> rfl) | (simp [*, errW_none, errW_some] <;> rfl), zb⟩
end Go.Proofs.YtphpdfcblchpnaaDoor.Q
namespace Go.Proofs.YtphpdfcblchpnaaDoor.M
abbrev Pg := Int × Int
def turn (a b c : Pg) : Int := (b.1 - a.1) * (c.2 - a.2) - (b.2 - a.2) * (c.1 - a.1)
def sgn (x : Int) : Int := if 0 < x then 1 else if x < 0 then -1 else 0
def onSeg (a b p : Pg) : Prop := turn a b p = 0 ∧ min a.1 b.1 ≤ p.1 ∧ p.1 ≤ max a.1 b.1 ∧ min a.2 b.2 ≤ p.2 ∧ p.2 ≤ max a.2 b.2
instance (a b p : Pg) : Decidable (onSeg a b p) := by unfold onSeg; infer_instance
def cross4 (a b c d : Pg) : Prop := sgn (turn a b c) * sgn (turn a b d) < 0 ∧ sgn (turn c d a) * sgn (turn c d b) < 0
instance (a b c d : Pg) : Decidable (cross4 a b c d) := by unfold cross4; infer_instance
def meets (a b c d : Pg) : Prop := cross4 a b c d ∨ onSeg a b c ∨ onSeg a b d ∨ onSeg c d a ∨ onSeg c d b
instance (a b c d : Pg) : Decidable (meets a b c d) := by unfold meets; infer_instance
def isPeg (p : Pg) : Prop := -40 ≤ p.1 ∧ p.1 ≤ 40 ∧ -40 ≤ p.2 ∧ p.2 ≤ 40
instance (p : Pg) : Decidable (isPeg p) := by unfold isPeg; infer_instance
def at' (l : List Pg) (i : Nat) : Pg := l.getD (i % l.length) (0, 0)
structure Poly (l : List Pg) : Prop where
  n3 : 3 ≤ l.length
  n10 : l.length ≤ 10
  pegs : ∀ p ∈ l, isPeg p
  diff : ∀ i j, j < i → i < l.length → at' l i ≠ at' l j
  turns : ∀ i, i < l.length → turn (at' l i) (at' l (i + 1)) (at' l (i + 2)) ≠ 0
  apart : ∀ i k, k + 1 < i → i < l.length → ¬ (i + 1 = l.length ∧ k = 0) → ¬ meets (at' l k) (at' l (k + 1)) (at' l i) (at' l (i + 1))
theorem mul_bd {x y A : Int} (h1 : -A ≤ x) (h2 : x ≤ A) (h3 : -A ≤ y) (h4 : y ≤ A) : -(A * A) ≤ x * y ∧ x * y ≤ A * A := by
  have a := Int.mul_nonneg (show 0 ≤ A - x by omega) (show 0 ≤ A - y by omega)
  have b := Int.mul_nonneg (show 0 ≤ A + x by omega) (show 0 ≤ A + y by omega)
  have c := Int.mul_nonneg (show 0 ≤ A - x by omega) (show 0 ≤ A + y by omega)
  have d := Int.mul_nonneg (show 0 ≤ A + x by omega) (show 0 ≤ A - y by omega)
  have e1 : (A - x) * (A - y) = A * A - A * y - x * A + x * y := by grind
  have e2 : (A + x) * (A + y) = A * A + A * y + x * A + x * y := by grind
  have e3 : (A - x) * (A + y) = A * A + A * y - x * A - x * y := by grind
  have e4 : (A + x) * (A - y) = A * A - A * y + x * A - x * y := by grind
  constructor <;> omega
theorem sgn_bd (x : Int) : sgn x = 1 ∨ sgn x = -1 ∨ sgn x = 0 := by
  unfold sgn
  split
  · exact .inl rfl
  · split <;> simp
theorem between_iff (a b p : Int) : (a - p) * (b - p) ≤ 0 ↔ min a b ≤ p ∧ p ≤ max a b := by
  constructor
  · intro h
    constructor
    · false_or_by_contra
      have := Int.mul_pos (show 0 < a - p by omega) (show 0 < b - p by omega)
      omega
    · false_or_by_contra
      have := Int.mul_pos (show 0 < p - a by omega) (show 0 < p - b by omega)
      have e : (p - a) * (p - b) = (a - p) * (b - p) := by grind
      omega
  · rintro ⟨h1, h2⟩
    by_cases h : a = p
    · subst h; simp
    by_cases h' : a ≤ p
    · have := Int.mul_nonneg (show 0 ≤ p - a by omega) (show 0 ≤ b - p by omega)
      have e : (p - a) * (b - p) = -((a - p) * (b - p)) := by grind
      omega
    · have := Int.mul_nonneg (show 0 ≤ a - p by omega) (show 0 ≤ p - b by omega)
      have e : (a - p) * (p - b) = -((a - p) * (b - p)) := by grind
      omega
end Go.Proofs.YtphpdfcblchpnaaDoor.M
namespace Go.Proofs.YtphpdfcblchpnaaDoor.M
def crosses (a b p : Pg) : Prop := (a.2 ≤ p.2 ∧ p.2 < b.2 ∧ 0 < turn a b p) ∨ (b.2 ≤ p.2 ∧ p.2 < a.2 ∧ turn a b p < 0)
instance (a b p : Pg) : Decidable (crosses a b p) := by unfold crosses; infer_instance
end Go.Proofs.YtphpdfcblchpnaaDoor.M
namespace Go.Proofs.YtphpdfcblchpnaaDoor.D
open Go.RowKit Go.Proofs.YtphpdfcblchpnaaDoor.Q Go.Proofs.YtphpdfcblchpnaaDoorW.PrintWords Go.Proofs.YtphpdfcblchpnaaDoorW.PrintLast Go.Proofs.YtphpdfcblchpnaaDoorW.PrintMore
open Go.Proofs.YtphpdfcblchpnaaDoor.M
def pg (s : S33) : Pg := (s.f0, s.f1)
def pgs (l : List S33) : List Pg := l.map pg
theorem pgs_length (l : List S33) : (pgs l).length = l.length := by simp [pgs]
theorem w64 {x : Int} (h1 : -9000000000000000000 ≤ x) (h2 : x ≤ 9000000000000000000) : wrap64 x = x := by
  unfold wrap64
  omega
def B3 (p : Pg) : Prop := -1000 ≤ p.1 ∧ p.1 ≤ 1000 ∧ -1000 ≤ p.2 ∧ p.2 ≤ 1000
theorem B3_of_peg {p : Pg} (h : isPeg p) : B3 p := by
  unfold isPeg at h
  unfold B3
  omega
theorem mn_eq (a b : Int) : mn a b = min a b := by
  unfold mn
  split <;> omega
theorem mx_eq (a b : Int) : mx a b = max a b := by
  unfold mx
  split <;> omega
theorem within_eq (n a b : Int) : impl_within.f n a b = some (decide (a ≤ n ∧ n ≤ b)) := by
  unfold impl_within.f
  by_cases h : n ≥ a
  · rw [if_pos h]
    simp [show a ≤ n from h]
  · rw [if_neg h]
    simp [show ¬ a ≤ n from h]
theorem isPeg_eq (x y : Int) : impl_IsPeg.f x y = some (decide (isPeg (x, y))) := by
  unfold impl_IsPeg.f
  simp only [within_eq, Option.bind_some, decide_eq_true_eq]
  by_cases h : isPeg (x, y)
  · rw [decide_eq_true h, if_pos ⟨h.1, h.2.1⟩, decide_eq_true ⟨h.2.2.1, h.2.2.2⟩]
  · rw [decide_eq_false h]
    by_cases h1 : -40 ≤ x ∧ x ≤ 40
    · rw [if_pos h1, decide_eq_false (fun h2 => h ⟨h1.1, h1.2, h2⟩)]
    · rw [if_neg h1]
theorem tprod {a b c : Pg} (ha : B3 a) (hb : B3 b) (hc : B3 c) : -4000000 ≤ (b.1 - a.1) * (c.2 - a.2) ∧ (b.1 - a.1) * (c.2 - a.2) ≤ 4000000 ∧ -4000000 ≤ (b.2 - a.2) * (c.1 - a.1) ∧ (b.2 - a.2) * (c.1 - a.1) ≤ 4000000 := by
  unfold B3 at ha hb hc
  have h1 := mul_bd (x := b.1 - a.1) (y := c.2 - a.2) (A := 2000) (by omega) (by omega) (by omega) (by omega)
  have h2 := mul_bd (x := b.2 - a.2) (y := c.1 - a.1) (A := 2000) (by omega) (by omega) (by omega) (by omega)
  omega
theorem turn_eq {a b c : Pg} (ha : B3 a) (hb : B3 b) (hc : B3 c) : impl_turn.f a.1 a.2 b.1 b.2 c.1 c.2 = some (turn a b c) := by
  have h := tprod ha hb hc
  unfold B3 at ha hb hc
  unfold impl_turn.f impl_Peg_less.f impl_cross.f turn
  simp only [Option.bind_some]
  rw [w64 (x := b.1 - a.1) (by omega) (by omega), w64 (x := b.2 - a.2) (by omega) (by omega), w64 (x := c.1 - a.1) (by omega) (by omega), w64 (x := c.2 - a.2) (by omega) (by omega)]
  rw [w64 (x := (b.1 - a.1) * (c.2 - a.2)) (by omega) (by omega), w64 (x := (b.2 - a.2) * (c.1 - a.1)) (by omega) (by omega), w64 (by omega) (by omega)]
theorem isOn_eq {a b p : Pg} (ha : B3 a) (hb : B3 b) (hp : B3 p) : impl_isOn.f a.1 a.2 b.1 b.2 p.1 p.2 = some (decide (onSeg a b p)) := by
  unfold impl_isOn.f
  rw [turn_eq ha hb hp]
  simp only [Option.bind_some, within_eq, mn_eq, mx_eq]
  by_cases h : onSeg a b p
  · rw [decide_eq_true h, if_pos h.1, if_pos (decide_eq_true ⟨h.2.1, h.2.2.1⟩), decide_eq_true ⟨h.2.2.2.1, h.2.2.2.2⟩]
  · rw [decide_eq_false h]
    by_cases h0 : turn a b p = 0
    · rw [if_pos h0]
      by_cases h1 : min a.1 b.1 ≤ p.1 ∧ p.1 ≤ max a.1 b.1
      · rw [if_pos (decide_eq_true h1), decide_eq_false (fun h2 => h ⟨h0, h1.1, h1.2, h2⟩)]
      · rw [if_neg (by simpa using h1)]
    · rw [if_neg h0]
theorem sign_eq (x : Int) : impl_sign.f x = some (sgn x) := by
  unfold impl_sign.f sgn
  rw [mn_eq, mx_eq]
  congr 1
  split
  · omega
  · split <;> omega
theorem sgnmul_bd (x y : Int) : -1 ≤ sgn x * sgn y ∧ sgn x * sgn y ≤ 1 := by
  rcases sgn_bd x with h | h | h <;> rcases sgn_bd y with k | k | k <;> rw [h, k] <;> decide
theorem meet_eq (k : Nat) {a b c d : Pg} (ha : B3 a) (hb : B3 b) (hc : B3 c) (hd : B3 d) : impl_meet.f (k + 1) a.1 a.2 b.1 b.2 c.1 c.2 d.1 d.2 = some (decide (meets a b c d)) := by
  have j0 : ∀ x : Bool, impl_meet.j0 (k + 1) x a.1 a.2 b.1 b.2 c.1 c.2 d.1 d.2 = some (x || decide (onSeg a b c ∨ onSeg a b d ∨ onSeg c d a ∨ onSeg c d b)) := by
    intro x
    simp only [impl_meet.j0, isOn_eq ha hb hc, isOn_eq ha hb hd, isOn_eq hc hd ha, isOn_eq hc hd hb, Option.bind_some]
    cases x
    · simp only [Bool.false_or]
      by_cases h1 : onSeg a b c <;> by_cases h2 : onSeg a b d <;> by_cases h3 : onSeg c d a <;> by_cases h4 : onSeg c d b <;> simp [h1, h2, h3, h4]
    · simp
  unfold impl_meet.f
  rw [turn_eq ha hb hc, turn_eq ha hb hd, turn_eq hc hd ha, turn_eq hc hd hb]
  simp only [Option.bind_some, sign_eq, j0]
  have b1 := sgnmul_bd (turn a b c) (turn a b d)
  have b2 := sgnmul_bd (turn c d a) (turn c d b)
  rw [w64 (by omega) (by omega), w64 (by omega) (by omega)]
  unfold meets cross4
  by_cases h : sgn (turn a b c) * sgn (turn a b d) < 0
  · rw [if_pos h]
    simp [h]
  · rw [if_neg h]
    simp [h]
theorem rd_pg (l : List S33) (i : Nat) (h : i < l.length) : ((rd_T33 l (i : Int)).f0, (rd_T33 l (i : Int)).f1) = at' (pgs l) i := by
  unfold rd_T33 at' pgs
  rw [Int.toNat_natCast, List.length_map, Nat.mod_eq_of_lt h]
  simp [List.getD, h, pg]
theorem rd_f0 (l : List S33) (i : Nat) (h : i < l.length) : (rd_T33 l (i : Int)).f0 = (at' (pgs l) i).1 := by rw [← rd_pg l i h]
theorem rd_f1 (l : List S33) (i : Nat) (h : i < l.length) : (rd_T33 l (i : Int)).f1 = (at' (pgs l) i).2 := by rw [← rd_pg l i h]
theorem at'_mod (l : List Pg) (i : Nat) : at' l (i % l.length) = at' l i := by unfold at'; rw [Nat.mod_mod]
theorem tmod_nat (m n : Nat) : Int.tmod (m : Int) (n : Int) = ((m % n : Nat) : Int) := by
  rw [Int.ofNat_tmod]
theorem at_eq (l : List S33) (i : Nat) (h0 : 0 < l.length) (hl : l.length ≤ 1000000) : impl_at.f l (i : Int) = some (at' (pgs l) i) := by
  have hm : i % l.length < l.length := Nat.mod_lt _ h0
  have e : Int.tmod (wrap64 (Int.tmod (i : Int) (l.length : Int) + (l.length : Int))) (l.length : Int) = ((i % l.length : Nat) : Int) := by
    rw [tmod_nat, w64 (by omega) (by omega), ← Int.natCast_add, tmod_nat, Nat.add_mod_right, Nat.mod_mod]
  unfold impl_at.f
  rw [e, if_neg (by omega), if_pos (by omega), if_pos (by omega), rd_f0 l _ hm, rd_f1 l _ hm]
  have := at'_mod (pgs l) i
  rw [pgs_length] at this
  rw [this]
theorem at_pred (l : List S33) (i : Nat) (h2 : 2 ≤ l.length) (hl : l.length ≤ 1000000) (hi : i ≤ l.length) : impl_at.f l ((i : Int) - 1) = some (at' (pgs l) (i + l.length - 1)) := by
  have e : Int.tmod (wrap64 (Int.tmod ((i : Int) - 1) (l.length : Int) + (l.length : Int))) (l.length : Int) = (((i + l.length - 1) % l.length : Nat) : Int) := by
    have e1 : Int.tmod ((i : Int) - 1) (l.length : Int) + (l.length : Int) = ((i + l.length - 1 : Nat) : Int) := by
      by_cases h : i = 0
      · subst h
        have : Int.tmod (((0 : Nat) : Int) - 1) (l.length : Int) = -1 := by
          rw [show (((0 : Nat) : Int) - 1) = -(1 : Nat) from by omega, Int.neg_tmod, tmod_nat, Nat.mod_eq_of_lt (by omega)]
          rfl
        rw [this]
        omega
      · rw [show ((i : Int) - 1) = ((i - 1 : Nat) : Int) from by omega, tmod_nat, Nat.mod_eq_of_lt (by omega)]
        omega
    rw [e1, w64 (by omega) (by omega), tmod_nat]
  have hm : (i + l.length - 1) % l.length < l.length := Nat.mod_lt _ (by omega)
  unfold impl_at.f
  rw [e, if_neg (by omega), if_pos (by omega), if_pos (by omega), rd_f0 l _ hm, rd_f1 l _ hm]
  have := at'_mod (pgs l) (i + l.length - 1)
  rw [pgs_length] at this
  rw [this]
end Go.Proofs.YtphpdfcblchpnaaDoor.D
namespace Go.Proofs.YtphpdfcblchpnaaDoor.D
open Go.RowKit Go.Proofs.YtphpdfcblchpnaaDoor.Q Go.Proofs.YtphpdfcblchpnaaDoorW.PrintWords Go.Proofs.YtphpdfcblchpnaaDoorW.PrintLast Go.Proofs.YtphpdfcblchpnaaDoorW.PrintMore
open Go.Proofs.YtphpdfcblchpnaaDoor.M
theorem loop_ev {β : Type} {L : Nat → Nat → Option β} {n : Nat} {r : Nat → β} (hn : Ev (fun k => L k n) (r n))
    (step : ∀ i, i < n → Ev (fun k => L k (i + 1)) (r (i + 1)) → Ev (fun k => L k i) (r i)) : ∀ i, i ≤ n → Ev (fun k => L k i) (r i) := by
  intro i hi
  obtain ⟨d, hd⟩ : ∃ d, d = n - i := ⟨_, rfl⟩
  induction d generalizing i with
  | zero =>
    have : i = n := by omega
    subst this
    exact hn
  | succ d ih => exact step i (by omega) (ih (i + 1) (by omega) (by omega))
theorem cast_succ (i : Nat) (h : i ≤ 100000000) : wrap64 ((i : Int) + 1) = ((i + 1 : Nat) : Int) := by
  rw [w64 (by omega) (by omega)]
  omega
noncomputable def dec (p : Prop) : Bool := @decide p (Classical.propDecidable p)
theorem dec_true {p : Prop} (h : p) : dec p = true := by unfold dec; exact @decide_eq_true p (Classical.propDecidable p) h
theorem dec_false {p : Prop} (h : ¬ p) : dec p = false := by unfold dec; exact @decide_eq_false p (Classical.propDecidable p) h
theorem dec_congr {p q : Prop} (h : p ↔ q) : dec p = dec q := by
  by_cases k : p
  · rw [dec_true k, dec_true (h.mp k)]
  · rw [dec_false k, dec_false (fun q => k (h.mpr q))]
theorem decide_dec (p : Prop) [Decidable p] : decide p = dec p := by
  by_cases k : p
  · rw [dec_true k, decide_eq_true k]
  · rw [dec_false k, decide_eq_false k]
theorem at'_of (l : List Pg) (i : Nat) (h : i < l.length) : at' l i = l[i] := by
  unfold at'
  rw [Nat.mod_eq_of_lt h]
  simp [List.getD, h]
theorem index_ev (l : List S33) (p : Pg) (hl : l.length ≤ 1000000) : ∃ r : Int, Ev (fun k => impl_Peg_34.f k l p.1 p.2) r ∧ (r ≥ 0 ↔ p ∈ pgs l) := by
  have key : ∀ i, i ≤ l.length → ∃ r : Int, Ev (fun k => impl_Peg_34.l0 k l (l.length : Int) (i : Int) p.1 p.2) r ∧ (r ≥ 0 ↔ ∃ j, i ≤ j ∧ j < l.length ∧ at' (pgs l) j = p) := by
    intro i hi
    obtain ⟨d, hd⟩ : ∃ d, d = l.length - i := ⟨_, rfl⟩
    induction d generalizing i with
    | zero =>
      refine ⟨-1, Ev.step (fun k => by simp only [impl_Peg_34.l0]; rw [if_neg (by omega)]) (Ev.now _), ?_⟩
      constructor
      · intro h; omega
      · rintro ⟨j, h1, h2, _⟩; omega
    | succ d ih =>
      by_cases h : at' (pgs l) i = p
      · refine ⟨i, Ev.step (f := fun _ => some (i : Int)) (fun k => ?_) (Ev.now _), ?_⟩
        · simp only [impl_Peg_34.l0]
          rw [if_pos (by omega), if_pos (by omega), if_pos (by omega), rd_f0 l i (by omega), rd_f1 l i (by omega), h, if_pos (by simp)]
        · exact ⟨fun _ => ⟨i, Nat.le_refl _, by omega, h⟩, fun _ => by omega⟩
      · obtain ⟨r, hr, hiff⟩ := ih (i + 1) (by omega) (by omega)
        refine ⟨r, Ev.step (fun k => ?_) hr, ?_⟩
        · simp only [impl_Peg_34.l0]
          rw [if_pos (by omega), if_pos (by omega), if_pos (by omega), rd_f0 l i (by omega), rd_f1 l i (by omega), if_neg, cast_succ i (by omega)]
          intro hh
          apply h
          simp only [Bool.and_eq_true, beq_iff_eq] at hh
          exact Prod.ext hh.1.symm hh.2.symm
        · rw [hiff]
          constructor
          · rintro ⟨j, h1, h2, h3⟩
            exact ⟨j, by omega, h2, h3⟩
          · rintro ⟨j, h1, h2, h3⟩
            refine ⟨j, ?_, h2, h3⟩
            by_cases e : j = i
            · subst e; exact absurd h3 h
            · omega
  obtain ⟨r, hr, hiff⟩ := key 0 (Nat.zero_le _)
  refine ⟨r, hr, hiff.trans ?_⟩
  rw [List.mem_iff_getElem]
  constructor
  · rintro ⟨j, _, h2, h3⟩
    have hj : j < (pgs l).length := by rw [pgs_length]; exact h2
    exact ⟨j, hj, by rw [← at'_of _ _ hj]; exact h3⟩
  · rintro ⟨j, hj, h3⟩
    exact ⟨j, Nat.zero_le _, by rw [pgs_length] at hj; exact hj, by rw [at'_of _ _ hj]; exact h3⟩
theorem contains_ev (l : List S33) (p : Pg) (hl : l.length ≤ 1000000) : Ev (fun k => impl_Peg_22.f k l p.1 p.2) (dec (p ∈ pgs l)) := by
  obtain ⟨r, hr, hiff⟩ := index_ev l p hl
  refine Ev.congr (f := fun k => (impl_Peg_34.f k l p.1 p.2).bind fun t => some (decide (t ≥ 0))) (fun k => rfl) ?_
  refine Ev.bind hr ?_
  rw [decide_dec, dec_congr hiff]
  exact Ev.now _
theorem arePegs_ev (l : List S33) (hl : l.length ≤ 1000000) : Ev (fun k => impl_arePegs.f k l) (dec (∀ p ∈ pgs l, isPeg p)) := by
  have key : ∀ i, i ≤ l.length → ∃ r : Int, Ev (fun k => impl_Peg_43.l0 k l (l.length : Int) (i : Int)) r ∧ (r ≥ 0 ↔ ∃ j, i ≤ j ∧ j < l.length ∧ ¬ isPeg (at' (pgs l) j)) := by
    intro i hi
    obtain ⟨d, hd⟩ : ∃ d, d = l.length - i := ⟨_, rfl⟩
    induction d generalizing i with
    | zero =>
      refine ⟨-1, Ev.step (fun k => by simp only [impl_Peg_43.l0]; rw [if_neg (by omega)]) (Ev.now _), ?_⟩
      constructor
      · intro h; omega
      · rintro ⟨j, h1, h2, _⟩; omega
    | succ d ih =>
      by_cases h : isPeg (at' (pgs l) i)
      · obtain ⟨r, hr, hiff⟩ := ih (i + 1) (by omega) (by omega)
        refine ⟨r, Ev.step (fun k => ?_) hr, ?_⟩
        · simp only [impl_Peg_43.l0, impl_arePegs_1.f, isPeg_eq, Option.bind_some]
          rw [if_pos (by omega), if_pos (by omega), if_pos (by omega), rd_pg l i (by omega), decide_eq_true h, cast_succ i (by omega)]
          rfl
        · rw [hiff]
          constructor
          · rintro ⟨j, h1, h2, h3⟩
            exact ⟨j, by omega, h2, h3⟩
          · rintro ⟨j, h1, h2, h3⟩
            refine ⟨j, ?_, h2, h3⟩
            by_cases e : j = i
            · subst e; exact absurd h h3
            · omega
      · refine ⟨i, Ev.step (f := fun _ => some (i : Int)) (fun k => ?_) (Ev.now _), ?_⟩
        · simp only [impl_Peg_43.l0, impl_arePegs_1.f, isPeg_eq, Option.bind_some]
          rw [if_pos (by omega), if_pos (by omega), if_pos (by omega), rd_pg l i (by omega), decide_eq_false h]
          rfl
        · exact ⟨fun _ => ⟨i, Nat.le_refl _, by omega, h⟩, fun _ => by omega⟩
  obtain ⟨r, hr, hiff⟩ := key 0 (Nat.zero_le _)
  refine Ev.congr (f := fun k => ((impl_Peg_43.f k l).bind fun t => some (decide (t ≥ 0))).bind fun t => some (!t)) (fun k => rfl) ?_
  refine Ev.bind (Ev.bind hr (Ev.now _)) ?_
  have e : (!decide (r ≥ 0)) = dec (∀ p ∈ pgs l, isPeg p) := by
    by_cases h : r ≥ 0
    · rw [decide_eq_true h, dec_false]
      · rfl
      · intro hall
        obtain ⟨j, _, h2, h3⟩ := hiff.mp h
        have hj : j < (pgs l).length := by rw [pgs_length]; exact h2
        exact h3 (hall _ (by rw [at'_of _ _ hj]; exact List.getElem_mem hj))
    · rw [decide_eq_false h, dec_true]
      · rfl
      · intro p hp
        obtain ⟨j, hj, rfl⟩ := List.mem_iff_getElem.mp hp
        false_or_by_contra
        rename_i hn
        exact h (hiff.mpr ⟨j, Nat.zero_le _, by rw [pgs_length] at hj; exact hj, by rw [at'_of _ _ hj]; exact hn⟩)
  rw [e]
  exact Ev.now _
end Go.Proofs.YtphpdfcblchpnaaDoor.D
