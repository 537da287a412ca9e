/- Parts of the proof: printed texts, words and own texts, cut to what is used. -/
import Derived.Test.YtphpdfcblchpnaaZL2
namespace Go.Proofs.Ytphpdfcblchpnaa.Q
open Go.RowKit Go.Proofs.YtphpdfcblchpnaaW.PrintWords Go.Proofs.YtphpdfcblchpnaaW.PrintLast Go.Proofs.YtphpdfcblchpnaaW.PrintMore
attribute [local go_sem] max2_int min2_int max_two min_two max_three min_three max_four min_four   -- for this text's walks alone
set_option linter.unusedVariables false
set_option linter.unusedSimpArgs false
def spec_bdOuter.l0 : Nat → List (S26) → List (S26) → List (S26) → List (S26) → Int → Int → Option ((List (S26)) × (List (S26)))
 | 0, _, _, _, _, _, _ => none
 | k + 1, x4, x5, x6, x12, x13, x14 => if x14 < x13 then (if 0 ≤ x14 then (if x14 < (x12.length : Int) then ((spec_bdOn.f k x4 ((rd_T26 x12 x14).f0) ((rd_T26 x12 x14).f1)).bind fun t2301 => (if t2301 = true then (if x5.length < 8796093022208 then (spec_bdOuter.l0 k x4 (x5 ++ [(⟨(rd_T26 x12 x14).f0, (rd_T26 x12 x14).f1⟩ : S26)]) x6 x12 x13 (wrap64 (x14 + 1))) else (none)) else (if x6.length < 8796093022208 then (spec_bdOuter.l0 k x4 x5 (x6 ++ [(⟨(rd_T26 x12 x14).f0, (rd_T26 x12 x14).f1⟩ : S26)]) x12 x13 (wrap64 (x14 + 1))) else (none)))) else (none)) else (none)) else (some (x5, x6))
def spec_bdOuter.f (k : Nat) (l0 : List (S26)) : Option ((List (S26)) × (List (S26))) := (spec_bdBand.f k l0).bind fun t2293 => ((spec_bdSorted.f k l0).bind fun t2296 => (spec_bdOuter.l0 k t2293 ([] : List (S26)) ([] : List (S26)) t2296 (t2296.length : Int) 0))
set_option maxHeartbeats 8000000 in
set_option maxRecDepth 100000 in
theorem spec_bdOuter.calls (k : Nat) (A0 : Option Addr) (c0 : Nat) (l0 : List (S26)) (r1 : List (S26)) (r2 : List (S26)) (w : World) (hr0 : Kd.C k26 w A0 l0.length l0) (hc0 : l0.length ≤ c0) (h : spec_bdOuter.f k l0 = some (r1, r2)) :
  Calls Try.prog 264 #[.slice A0 l0.length c0] w fun e w' => ∃ v0_ v1_ : Value, e = .returned (.tuple #[v0_, v1_]) ∧ Kd.R k26 26 w' w.heap.size (fun k_ => some k_ ≠ (v1_ : Value).ownBlock) v0_ r1 ∧ Kd.R k26 26 w' w.heap.size (fun k_ => some k_ ≠ (v0_ : Value).ownBlock) v1_ r2 ∧ Below w.heap.size w w' := by
 have hu26 := Try.underlying26
 have HR0 := Aside0.mk hr0
 have HC0 := Aside0.mk hc0
 clear hr0 hc0
 have HB := Aside0.mk (Below.refl w.heap.size w)
 have H : ((spec_bdBand.f k l0).bind fun t2293 => ((spec_bdSorted.f k l0).bind fun t2296 => (spec_bdOuter.l0 k t2293 ([] : List (S26)) ([] : List (S26)) t2296 (t2296.length : Int) 0))) = some (r1, r2) := h
 clear h
 replace H := Option.bind_eq_some_iff.mp H
 obtain ⟨t2293, A20, H⟩ := H
 replace H : ((spec_bdSorted.f k l0).bind fun t2296 => (spec_bdOuter.l0 k t2293 ([] : List (S26)) ([] : List (S26)) t2296 (t2296.length : Int) 0)) = some (r1, r2) := H
 have A2 := Aside0.mk A20
 clear A20
 replace H := Option.bind_eq_some_iff.mp H
 obtain ⟨t2296, A30, H⟩ := H
 replace H : (spec_bdOuter.l0 k t2293 ([] : List (S26)) ([] : List (S26)) t2296 (t2296.length : Int) 0) = some (r1, r2) := H
 have A3 := Aside0.mk A30
 clear A30
 have H' := Aside0.mk H
 clear H
 go_enter Try.func264, Try.ntmps264
 go_wp2_with (first | ((with_reducible refine gate_callee (f := 289) rfl ?_); refine goesL_ (some 10) rfl rfl Try.func289 (by kernel_rfl) rfl #[.slice A0 l0.length c0] rfl zn ?_; (with_reducible refine (spec_bdBand.calls k _ _ l0 t2293 _ ?side1 ?side2 A2.out).mono ?_); (case side1 => repeat (first | exact HR0.out | (with_reducible refine Kd.C_alloc ?_ _) | (with_reducible refine Kd.C_drewN ?_ _) | (with_reducible refine Kd.C_drew ?_))); (case side2 => exact HC0.out); rintro e w4 ⟨v2294, rfl, ho0, hb⟩; refine ⟨_, rfl, ?_⟩; have n0_ := Aside0.mk (Kd.R_lower ho0 (below_size zb)); have n1_ := Aside0.mk (below_step zb hb); clear HB; have HO2295 := n0_; have HB := n1_; clear n0_ n1_; (try clear hb); (try clear hb2); (try clear hk); (try clear hi); (try clear ho0)) | ((with_reducible refine gate_callee (f := 210) rfl ?_); refine goesL_ (some 12) rfl rfl Try.func210 (by kernel_rfl) rfl #[.slice A0 l0.length c0] rfl zn ?_; (with_reducible refine (spec_bdSorted.calls k _ _ l0 t2296 _ ?side1 ?side2 A3.out).mono ?_); (case side1 => repeat (first | exact (Kd.C_below HR0.out HB.out) | (with_reducible refine Kd.C_alloc ?_ _) | (with_reducible refine Kd.C_drewN ?_ _) | (with_reducible refine Kd.C_drew ?_))); (case side2 => exact HC0.out); rintro e w5 ⟨v2297, rfl, ho0, hb⟩; refine ⟨_, rfl, ?_⟩; have n0_ := Aside0.mk (Kd.R_elder' (by (with_reducible repeat (first | apply Kd.R_alloc | apply Kd.R_drewN | apply Kd.R_drew)); exact HO2295.out) (Kd.R_base ho0) hb); have n1_ := Aside0.mk (Kd.R_lower (Kd.R_new' ho0 (Kd.R_lt (by (with_reducible repeat (first | apply Kd.R_alloc | apply Kd.R_drewN | apply Kd.R_drew)); exact HO2295.out))) (below_size zb)); have n2_ := Aside0.mk (below_step zb hb); clear HO2295; clear HB; have HO2295 := n0_; have HO2298 := n1_; have HB := n2_; clear n0_ n1_ n2_; (try clear hb); (try clear hb2); (try clear hk); (try clear hi); (try clear ho0); obtain ⟨Ao6, co6, eo6⟩ := Kd.R_slice HO2298.out; subst eo6))
 go_loopg [5, 6, 14] k (fun kq v5 v6 v14 w' => ∃ (x5_1 : List (S26)) (x6_1 : List (S26)) (x14_1 : Int), v14 = .int .i64 x14_1 ∧ Aside0 (spec_bdOuter.l0 kq t2293 x5_1 x6_1 t2296 (t2296.length : Int) x14_1 = some (r1, r2)) ∧ Aside0 (kq ≤ k) ∧ Aside0 (Kd.R k26 26 w' w.heap.size (fun k_ => some k_ ≠ (v5 : Value).ownBlock ∧ some k_ ≠ (v6 : Value).ownBlock ∧ some k_ ≠ ((.slice Ao6 t2296.length co6) : Value).ownBlock) v2294 t2293) ∧ Aside0 (Kd.R k26 26 w' w.heap.size (fun k_ => some k_ ≠ (v2294 : Value).ownBlock ∧ some k_ ≠ (v6 : Value).ownBlock ∧ some k_ ≠ ((.slice Ao6 t2296.length co6) : Value).ownBlock) v5 x5_1) ∧ Aside0 (Kd.R k26 26 w' w.heap.size (fun k_ => some k_ ≠ (v2294 : Value).ownBlock ∧ some k_ ≠ (v5 : Value).ownBlock ∧ some k_ ≠ ((.slice Ao6 t2296.length co6) : Value).ownBlock) v6 x6_1) ∧ Aside0 (Kd.R k26 26 w' w.heap.size (fun k_ => some k_ ≠ (v2294 : Value).ownBlock ∧ some k_ ≠ (v5 : Value).ownBlock ∧ some k_ ≠ (v6 : Value).ownBlock) (.slice Ao6 t2296.length co6) t2296) ∧ Aside0 (Below w.heap.size w w'))
 case atStart => exact ⟨(([] : List (S26))), (([] : List (S26))), (0), (by first | rfl | (simp; done) | (simp [*]; done)), H', ⟨Nat.le_refl _⟩, ⟨by (with_reducible repeat (first | apply Kd.R_alloc | apply Kd.R_drewN | apply Kd.R_drew)); exact Kd.R_mono HO2295.out (fun _ hk => ⟨(by simp [Value.ownBlock]), ⟨(by simp [Value.ownBlock]), hk.2⟩⟩)⟩, ⟨by first | exact Kd.R_nil _ _ _ _ _ | exact Kd.N_nil _ _ _ _ _ | exact Kd.V_nil _ _ _ _ _ | exact Kd.Q_nil _ _ _ _ _ | exact Kd.S_nil _ _ _ _ _⟩, ⟨by first | exact Kd.R_nil _ _ _ _ _ | exact Kd.N_nil _ _ _ _ _ | exact Kd.V_nil _ _ _ _ _ | exact Kd.Q_nil _ _ _ _ _ | exact Kd.S_nil _ _ _ _ _⟩, ⟨by (with_reducible repeat (first | apply Kd.R_alloc | apply Kd.R_drewN | apply Kd.R_drew)); exact Kd.R_mono HO2298.out (fun _ hk => ⟨hk.2, ⟨(by simp [Value.ownBlock]), (by simp [Value.ownBlock])⟩⟩)⟩, ⟨zb⟩⟩
 case round =>
  clear H'
  try clear c2
  try clear p2
  obtain ⟨x5_1, x6_1, x14_1, rfl, HA, HK1, HO_4, HO_5, HO_6, HO_12, HB⟩ := hrel
  cases gk with
  | zero => exact absurd HA.out (by simp [spec_bdOuter.l0])
  | succ k1 =>
   have H := HA.out
   clear HA
   simp only [spec_bdOuter.l0] at H
   by_cases c7 : x14_1 < (t2296.length : Int)
   ·rw [if_pos c7] at H
    have c7b0 : decide (x14_1 < (t2296.length : Int)) = true := decide_eq_true c7
    clear c7
    by_cases c8 : 0 ≤ x14_1
    ·rw [if_pos c8] at H
     have c8b0 : decide (0 ≤ x14_1) = true := decide_eq_true c8
     clear c8
     by_cases c9 : x14_1 < (t2296.length : Int)
     ·rw [if_pos c9] at H
      have c9b0 : decide (x14_1 < (t2296.length : Int)) = true := decide_eq_true c9
      clear c9
      replace H := Option.bind_eq_some_iff.mp H
      obtain ⟨t2301, A100, H⟩ := H
      replace H : (if t2301 = true then (if x5_1.length < 8796093022208 then (spec_bdOuter.l0 k1 t2293 (x5_1 ++ [(⟨(rd_T26 t2296 x14_1).f0, (rd_T26 t2296 x14_1).f1⟩ : S26)]) x6_1 t2296 (t2296.length : Int) (wrap64 (x14_1 + 1))) else (none)) else (if x6_1.length < 8796093022208 then (spec_bdOuter.l0 k1 t2293 x5_1 (x6_1 ++ [(⟨(rd_T26 t2296 x14_1).f0, (rd_T26 t2296 x14_1).f1⟩ : S26)]) t2296 (t2296.length : Int) (wrap64 (x14_1 + 1))) else (none))) = some (r1, r2) := H
      have A10 := Aside0.mk A100
      clear A100
      by_cases c11 : t2301 = true
      ·subst c11
       have H1 : (if x5_1.length < 8796093022208 then (spec_bdOuter.l0 k1 t2293 (x5_1 ++ [(⟨(rd_T26 t2296 x14_1).f0, (rd_T26 t2296 x14_1).f1⟩ : S26)]) x6_1 t2296 (t2296.length : Int) (wrap64 (x14_1 + 1))) else (none)) = some (r1, r2) := by rw [if_pos rfl] at H; exact H
       clear H
       have H := H1
       clear H1
       by_cases c12 : x5_1.length < 8796093022208
       ·rw [if_pos c12] at H
        have LMc12 := Aside0.mk c12
        clear c12
        obtain ⟨y2302, hy2302⟩ : ∃ y_ : List (S26), y_ = (x5_1 ++ [(⟨(rd_T26 t2296 x14_1).f0, (rd_T26 t2296 x14_1).f1⟩ : S26)]) := ⟨_, rfl⟩
        replace H : (spec_bdOuter.l0 k1 t2293 y2302 x6_1 t2296 (t2296.length : Int) (wrap64 (x14_1 + 1))) = some (r1, r2) := by first | (rw [hy2302]; with_reducible exact H) | (have H2_ := (Option.bind_some _ _).symm.trans H; rw [hy2302]; with_reducible exact H2_) | (have H2_ := (Option.bind_some _ _).symm.trans H; with_reducible exact H2_) | with_reducible exact H | (rw [hy2302]; exact H) | exact H
        have Ny2302 := Aside0.mk hy2302
        clear hy2302
        have H' := Aside0.mk H
        clear H
        have p2299 : 0 ≤ (x14_1 : Int) := of_decide_eq_true (by first | (with_reducible assumption) | assumption)
        have q2299 : x14_1 < (t2296.length : Int) := of_decide_eq_true (by first | (with_reducible assumption) | assumption)
        obtain ⟨ad2299, e2299, hx2299_0, hx2299_1⟩ := at_T26 (Kd.R_reads' HO_12.out).2.2 x14_1 p2299 q2299
        cases e2299
        replace p2299 := eq_true p2299
        replace q2299 := eq_true q2299
        go_wp2_with (first | ((with_reducible refine gate_dst (N := 8) rfl ?_); refine box_event ?hg (N := 8) ?hd (cs := #[.int .i64 0, .int .i64 0]) (t := 26) ?hr ?_; (case hd => rfl); (case hg => rfl); (case hr => first | (go_simp; done) | (go_simp; rfl)); intro gb2300 hg w13 hbox hb; have n0_ := Aside0.mk (Kd.R_below (Kd.R_elderB (by (with_reducible repeat (first | apply Kd.R_alloc | apply Kd.R_drewN | apply Kd.R_drew)); exact HO_4.out) gb2300 (Nat.le_of_eq hg.symm)) hb); have n1_ := Aside0.mk (Kd.R_below (Kd.R_elderB (by (with_reducible repeat (first | apply Kd.R_alloc | apply Kd.R_drewN | apply Kd.R_drew)); exact HO_5.out) gb2300 (Nat.le_of_eq hg.symm)) hb); have n2_ := Aside0.mk (Kd.R_below (Kd.R_elderB (by (with_reducible repeat (first | apply Kd.R_alloc | apply Kd.R_drewN | apply Kd.R_drew)); exact HO_6.out) gb2300 (Nat.le_of_eq hg.symm)) hb); have n3_ := Aside0.mk (Kd.R_below (Kd.R_elderB (by (with_reducible repeat (first | apply Kd.R_alloc | apply Kd.R_drewN | apply Kd.R_drew)); exact HO_12.out) gb2300 (Nat.le_of_eq hg.symm)) hb); have n4_ := Aside0.mk (below_step zb hb); have n5_ := Aside0.mk (hbox); have n6_ := Aside0.mk ((by rw [hg]; exact (below_size zb) : w.heap.size ≤ gb2300)); have n7_ := Aside0.mk ((by rw [hg]; exact (below_size zb) : w.heap.size ≤ gb2300)); clear HO_4; clear HO_5; clear HO_6; clear HO_12; clear HB; have HO_4 := n0_; have HO_5 := n1_; have HO_6 := n2_; have HO_12 := n3_; have HB := n4_; have BK2300 := n5_; have GW2300 := n6_; have GE2300 := n7_; clear n0_ n1_ n2_ n3_ n4_ n5_ n6_ n7_; clear hb hbox hg; have hcz14_0 : w13.cell? ⟨gb2300, 0, none⟩ = some (.int .i64 0) := (blk_cell BK2300.out 0).trans rfl; have hcz14_1 : w13.cell? ⟨gb2300, 1, none⟩ = some (.int .i64 0) := (blk_cell BK2300.out 1).trans rfl; have hfz14_0 := blk_frozen BK2300.out 0; have hfz14_1 := blk_frozen BK2300.out 1; obtain ⟨Ao15, co15, eo15⟩ := Kd.R_slice HO_4.out; subst eo15) | ((with_reducible refine gate_callee (f := 290) rfl ?_); refine goesL_ (some 20) rfl rfl Try.func290 (by kernel_rfl) rfl #[.slice Ao15 t2293.length co15, .agg #[.int .i64 ((rd_T26 t2296 x14_1).f0), .int .i64 ((rd_T26 t2296 x14_1).f1)]] rfl zn ?_; (with_reducible refine (spec_bdOn.calls k1 _ _ t2293 ((rd_T26 t2296 x14_1).f0) ((rd_T26 t2296 x14_1).f1) true _ ?side1 ?side2 A10.out).mono ?_); (case side1 => refine (Kd.R_reads' (e := 26) (base := w.heap.size) (ok := fun k_ => ((some k_ ≠ (u5 : Value).ownBlock ∧ (some k_ ≠ (u6 : Value).ownBlock ∧ some k_ ≠ (.slice (some ad2299) t2296.length co6 : Value).ownBlock)) ∧ k_ ≠ gb2300)) (n := t2293.length) (c := co15) ?_).2.2; exact (by (with_reducible repeat (first | apply Kd.R_alloc | apply Kd.R_drewN | apply Kd.R_drew)); exact (Kd.R_mono (Kd.R_far (p := ⟨gb2300, 1, none⟩) (Kd.R_far (p := ⟨gb2300, 0, none⟩) (Kd.R_mono HO_4.out (fun k_ hk => (⟨hk, hk.2⟩ : _ ∧ k_ ≠ gb2300))) (fun _ hk => hk.2) (.int .i64 ((rd_T26 t2296 x14_1).f0))) (fun _ hk => hk.2) (.int .i64 ((rd_T26 t2296 x14_1).f1))) (fun _ h_ => h_.1)))); (case side2 => exact (Kd.R_reads' HO_4.out).2.1); rintro e w16 ⟨rfl, hb⟩; refine ⟨_, rfl, ?_⟩; have n0_ := Aside0.mk (Kd.R_below (by (with_reducible repeat (first | apply Kd.R_alloc | apply Kd.R_drewN | apply Kd.R_drew)); exact (Kd.R_mono (Kd.R_far (p := ⟨gb2300, 1, none⟩) (Kd.R_far (p := ⟨gb2300, 0, none⟩) (Kd.R_mono HO_4.out (fun k_ hk => (⟨hk, hk.2⟩ : _ ∧ k_ ≠ gb2300))) (fun _ hk => hk.2) (.int .i64 ((rd_T26 t2296 x14_1).f0))) (fun _ hk => hk.2) (.int .i64 ((rd_T26 t2296 x14_1).f1))) (fun _ h_ => h_.1))) hb); have n1_ := Aside0.mk (Kd.R_below (by (with_reducible repeat (first | apply Kd.R_alloc | apply Kd.R_drewN | apply Kd.R_drew)); exact (Kd.R_mono (Kd.R_far (p := ⟨gb2300, 1, none⟩) (Kd.R_far (p := ⟨gb2300, 0, none⟩) (Kd.R_mono HO_5.out (fun k_ hk => (⟨hk, hk.2⟩ : _ ∧ k_ ≠ gb2300))) (fun _ hk => hk.2) (.int .i64 ((rd_T26 t2296 x14_1).f0))) (fun _ hk => hk.2) (.int .i64 ((rd_T26 t2296 x14_1).f1))) (fun _ h_ => h_.1))) hb); have n2_ := Aside0.mk (Kd.R_below (by (with_reducible repeat (first | apply Kd.R_alloc | apply Kd.R_drewN | apply Kd.R_drew)); exact (Kd.R_mono (Kd.R_far (p := ⟨gb2300, 1, none⟩) (Kd.R_far (p := ⟨gb2300, 0, none⟩) (Kd.R_mono HO_6.out (fun k_ hk => (⟨hk, hk.2⟩ : _ ∧ k_ ≠ gb2300))) (fun _ hk => hk.2) (.int .i64 ((rd_T26 t2296 x14_1).f0))) (fun _ hk => hk.2) (.int .i64 ((rd_T26 t2296 x14_1).f1))) (fun _ h_ => h_.1))) hb); have n3_ := Aside0.mk (Kd.R_below (by (with_reducible repeat (first | apply Kd.R_alloc | apply Kd.R_drewN | apply Kd.R_drew)); exact (Kd.R_mono (Kd.R_far (p := ⟨gb2300, 1, none⟩) (Kd.R_far (p := ⟨gb2300, 0, none⟩) (Kd.R_mono HO_12.out (fun k_ hk => (⟨hk, hk.2⟩ : _ ∧ k_ ≠ gb2300))) (fun _ hk => hk.2) (.int .i64 ((rd_T26 t2296 x14_1).f0))) (fun _ hk => hk.2) (.int .i64 ((rd_T26 t2296 x14_1).f1))) (fun _ h_ => h_.1))) hb); have n4_ := Aside0.mk (blk_below (g := gb2300) (o := .cells #[.int .i64 ((rd_T26 t2296 x14_1).f0), .int .i64 ((rd_T26 t2296 x14_1).f1)] 26 (0, 0)) (by (with_reducible repeat (first | refine blk_drewN ?_ _ | refine blk_drew ?_ | refine blk_alloc ?_ _)); refine blk_put (cs := #[.int .i64 ((rd_T26 t2296 x14_1).f0), .int .i64 0]) ?_ 1 _ rfl; (with_reducible repeat (first | refine blk_drewN ?_ _ | refine blk_drew ?_ | refine blk_alloc ?_ _)); refine blk_put (cs := #[.int .i64 0, .int .i64 0]) ?_ 0 _ rfl; (with_reducible repeat (first | refine blk_drewN ?_ _ | refine blk_drew ?_ | refine blk_alloc ?_ _)); exact BK2300.out) hb); have n5_ := Aside0.mk (below_step zb hb); clear HO_4; clear HO_5; clear HO_6; clear HO_12; clear BK2300; clear HB; have HO_4 := n0_; have HO_5 := n1_; have HO_6 := n2_; have HO_12 := n3_; have BK2300 := n4_; have HB := n5_; clear n0_ n1_ n2_ n3_ n4_ n5_; (try clear hb); (try clear hb2); (try clear hk); (try clear hi); have hcz17_0 : w16.cell? ⟨gb2300, 0, none⟩ = some (.int .i64 ((rd_T26 t2296 x14_1).f0)) := (blk_cell BK2300.out 0).trans rfl; have hcz17_1 : w16.cell? ⟨gb2300, 1, none⟩ = some (.int .i64 ((rd_T26 t2296 x14_1).f1)) := (blk_cell BK2300.out 1).trans rfl; have hfz17_0 := blk_frozen BK2300.out 0; have hfz17_1 := blk_frozen BK2300.out 1) | ((with_reducible refine gate_builtin (b := .append) (xs := #[.tmp 21, .tmp 23]) rfl ?_); at_builtin; refine Kd.R_append k26 (w0 := w) w.heap.size rfl (.tmp 21) (.tmp 23) 24 26 (.agg #[(.int .i64 0), (.int .i64 0)]) 16 rfl Try.underlying24 info26 rfl (by decide) (by omega) u5 x5_1 (⟨(rd_T26 t2296 x14_1).f0, (rd_T26 t2296 x14_1).f1⟩ : S26) [.int .i64 ((rd_T26 t2296 x14_1).f0), .int .i64 ((rd_T26 t2296 x14_1).f1)] (fun k_ => some k_ ≠ (.slice Ao15 t2293.length co15 : Value).ownBlock ∧ some k_ ≠ (u6 : Value).ownBlock ∧ some k_ ≠ (.slice (some ad2299) t2296.length co6 : Value).ownBlock ∧ k_ ≠ gb2300) (fun _ => False) rfl rfl ?aP (fun _ hk => hk.elim) ?aF ?aO ?aB ?aS ?aL ?_; (case aP => exact k26_mkM _ _ _ (⟨(rd_T26 t2296 x14_1).f0, (rd_T26 t2296 x14_1).f1⟩ : S26)); (case aB => exact zb); (case aF => exact (fun k_ hk => ⟨Kd.fresh' (Kd.R_lt (by (with_reducible repeat (first | apply Kd.R_alloc | apply Kd.R_drewN | apply Kd.R_drew)); exact HO_4.out)) k_ hk, Kd.fresh' (Kd.R_lt (by (with_reducible repeat (first | apply Kd.R_alloc | apply Kd.R_drewN | apply Kd.R_drew)); exact HO_6.out)) k_ hk, Kd.fresh' (Kd.R_lt (by (with_reducible repeat (first | apply Kd.R_alloc | apply Kd.R_drewN | apply Kd.R_drew)); exact HO_12.out)) k_ hk, Kd.freshB (g := gb2300) (o := .cells #[.int .i64 ((rd_T26 t2296 x14_1).f0), .int .i64 ((rd_T26 t2296 x14_1).f1)] 26 (0, 0)) zk k_ hk⟩)); (case aO => exact (by (with_reducible repeat (first | apply Kd.R_alloc | apply Kd.R_drewN | apply Kd.R_drew)); exact Kd.R_mono HO_5.out (fun _ hk => ⟨hk.1.1, ⟨hk.1.2.1, ⟨hk.1.2.2, hk.2⟩⟩⟩))); (case aS => exact (below_size zb)); (case aL => have := LMc12.out; omega); intro v2303 w18 ho hb hg hat; rw [← Ny2302.out] at ho; have n0_ := Aside0.mk (Kd.R_after (ok := (fun k_ => some k_ ≠ (u6 : Value).ownBlock ∧ some k_ ≠ (.slice (some ad2299) t2296.length co6 : Value).ownBlock ∧ k_ ≠ gb2300)) (by (with_reducible repeat (first | apply Kd.R_alloc | apply Kd.R_drewN | apply Kd.R_drew)); exact Kd.R_mono HO_4.out (fun _ hk => ⟨⟨hk.1.2.1, ⟨hk.1.2.2, hk.2⟩⟩, hk.1.1⟩)) hg hat); have n1_ := Aside0.mk (Kd.R_after (ok := (fun k_ => some k_ ≠ (.slice Ao15 t2293.length co15 : Value).ownBlock ∧ some k_ ≠ (.slice (some ad2299) t2296.length co6 : Value).ownBlock ∧ k_ ≠ gb2300)) (by (with_reducible repeat (first | apply Kd.R_alloc | apply Kd.R_drewN | apply Kd.R_drew)); exact Kd.R_mono HO_6.out (fun _ hk => ⟨⟨hk.1.1, ⟨hk.1.2.2, hk.2⟩⟩, hk.1.2.1⟩)) hg hat); have n2_ := Aside0.mk (Kd.R_after (ok := (fun k_ => some k_ ≠ (.slice Ao15 t2293.length co15 : Value).ownBlock ∧ some k_ ≠ (u6 : Value).ownBlock ∧ k_ ≠ gb2300)) (by (with_reducible repeat (first | apply Kd.R_alloc | apply Kd.R_drewN | apply Kd.R_drew)); exact Kd.R_mono HO_12.out (fun _ hk => ⟨⟨hk.1.1, ⟨hk.1.2.2, hk.2⟩⟩, hk.1.2.1⟩)) hg hat); have n3_ := Aside0.mk (blk_grown (g := gb2300) (o := .cells #[.int .i64 ((rd_T26 t2296 x14_1).f0), .int .i64 ((rd_T26 t2296 x14_1).f1)] 26 (0, 0)) zk hg (Kd.R_away HO_5.out (fun _ hk => hk.2))); have n4_ := Aside0.mk (hb); have n5_ := Aside0.mk (ho); clear HO_4; clear HO_6; clear HO_12; clear BK2300; clear HB; clear HO_5; have HO_4 := n0_; have HO_6 := n1_; have HO_12 := n2_; have BK2300 := n3_; have HB := n4_; have HO2304 := n5_; clear n0_ n1_ n2_ n3_ n4_ n5_; clear ho hb hg hat))
        go_roundg k1
        case measure => have := HK1.out; omega
        case rel => exact ⟨(y2302), (x6_1), (wrap64 (x14_1 + 1)), (by first | rfl | (simp; done) | (simp [*]; done)), H', ⟨by have := HK1.out; omega⟩, ⟨by (with_reducible repeat (first | apply Kd.R_alloc | apply Kd.R_drewN | apply Kd.R_drew)); exact Kd.R_mono HO_4.out (fun _ hk => ⟨hk.2, ⟨hk.1.1, hk.1.2.1⟩⟩)⟩, ⟨by (with_reducible repeat (first | apply Kd.R_alloc | apply Kd.R_drewN | apply Kd.R_drew)); exact Kd.R_mono HO2304.out (fun _ hk => ⟨hk.1, ⟨hk.2.1, hk.2.2.1⟩⟩)⟩, ⟨by (with_reducible repeat (first | apply Kd.R_alloc | apply Kd.R_drewN | apply Kd.R_drew)); exact Kd.R_mono HO_6.out (fun _ hk => ⟨hk.1.1, ⟨hk.2, hk.1.2.1⟩⟩)⟩, ⟨by (with_reducible repeat (first | apply Kd.R_alloc | apply Kd.R_drewN | apply Kd.R_drew)); exact Kd.R_mono HO_12.out (fun _ hk => ⟨hk.1.1, ⟨hk.2, hk.1.2.1⟩⟩)⟩, ⟨zb⟩⟩
       ·rw [if_neg c12] at H
        exact absurd H (by simp)
      ·replace c11 := Bool.eq_false_iff.mpr c11
       subst c11
       have H1 : (if x6_1.length < 8796093022208 then (spec_bdOuter.l0 k1 t2293 x5_1 (x6_1 ++ [(⟨(rd_T26 t2296 x14_1).f0, (rd_T26 t2296 x14_1).f1⟩ : S26)]) t2296 (t2296.length : Int) (wrap64 (x14_1 + 1))) else (none)) = some (r1, r2) := by rw [if_neg (show ¬ (false = true) by decide)] at H; exact H
       clear H
       have H := H1
       clear H1
       by_cases c19 : x6_1.length < 8796093022208
       ·rw [if_pos c19] at H
        have LMc19 := Aside0.mk c19
        clear c19
        obtain ⟨y2305, hy2305⟩ : ∃ y_ : List (S26), y_ = (x6_1 ++ [(⟨(rd_T26 t2296 x14_1).f0, (rd_T26 t2296 x14_1).f1⟩ : S26)]) := ⟨_, rfl⟩
        replace H : (spec_bdOuter.l0 k1 t2293 x5_1 y2305 t2296 (t2296.length : Int) (wrap64 (x14_1 + 1))) = some (r1, r2) := by first | (rw [hy2305]; with_reducible exact H) | (have H2_ := (Option.bind_some _ _).symm.trans H; rw [hy2305]; with_reducible exact H2_) | (have H2_ := (Option.bind_some _ _).symm.trans H; with_reducible exact H2_) | with_reducible exact H | (rw [hy2305]; exact H) | exact H
        have Ny2305 := Aside0.mk hy2305
        clear hy2305
        have H' := Aside0.mk H
        clear H
        have p2299 : 0 ≤ (x14_1 : Int) := of_decide_eq_true (by first | (with_reducible assumption) | assumption)
        have q2299 : x14_1 < (t2296.length : Int) := of_decide_eq_true (by first | (with_reducible assumption) | assumption)
        obtain ⟨ad2299, e2299, hx2299_0, hx2299_1⟩ := at_T26 (Kd.R_reads' HO_12.out).2.2 x14_1 p2299 q2299
        cases e2299
        replace p2299 := eq_true p2299
        replace q2299 := eq_true q2299
        go_wp2_with (first | ((with_reducible refine gate_dst (N := 8) rfl ?_); refine box_event ?hg (N := 8) ?hd (cs := #[.int .i64 0, .int .i64 0]) (t := 26) ?hr ?_; (case hd => rfl); (case hg => rfl); (case hr => first | (go_simp; done) | (go_simp; rfl)); intro gb2300 hg w20 hbox hb; have n0_ := Aside0.mk (Kd.R_below (Kd.R_elderB (by (with_reducible repeat (first | apply Kd.R_alloc | apply Kd.R_drewN | apply Kd.R_drew)); exact HO_4.out) gb2300 (Nat.le_of_eq hg.symm)) hb); have n1_ := Aside0.mk (Kd.R_below (Kd.R_elderB (by (with_reducible repeat (first | apply Kd.R_alloc | apply Kd.R_drewN | apply Kd.R_drew)); exact HO_5.out) gb2300 (Nat.le_of_eq hg.symm)) hb); have n2_ := Aside0.mk (Kd.R_below (Kd.R_elderB (by (with_reducible repeat (first | apply Kd.R_alloc | apply Kd.R_drewN | apply Kd.R_drew)); exact HO_6.out) gb2300 (Nat.le_of_eq hg.symm)) hb); have n3_ := Aside0.mk (Kd.R_below (Kd.R_elderB (by (with_reducible repeat (first | apply Kd.R_alloc | apply Kd.R_drewN | apply Kd.R_drew)); exact HO_12.out) gb2300 (Nat.le_of_eq hg.symm)) hb); have n4_ := Aside0.mk (below_step zb hb); have n5_ := Aside0.mk (hbox); have n6_ := Aside0.mk ((by rw [hg]; exact (below_size zb) : w.heap.size ≤ gb2300)); have n7_ := Aside0.mk ((by rw [hg]; exact (below_size zb) : w.heap.size ≤ gb2300)); clear HO_4; clear HO_5; clear HO_6; clear HO_12; clear HB; have HO_4 := n0_; have HO_5 := n1_; have HO_6 := n2_; have HO_12 := n3_; have HB := n4_; have BK2300 := n5_; have GW2300 := n6_; have GE2300 := n7_; clear n0_ n1_ n2_ n3_ n4_ n5_ n6_ n7_; clear hb hbox hg; have hcz21_0 : w20.cell? ⟨gb2300, 0, none⟩ = some (.int .i64 0) := (blk_cell BK2300.out 0).trans rfl; have hcz21_1 : w20.cell? ⟨gb2300, 1, none⟩ = some (.int .i64 0) := (blk_cell BK2300.out 1).trans rfl; have hfz21_0 := blk_frozen BK2300.out 0; have hfz21_1 := blk_frozen BK2300.out 1; obtain ⟨Ao22, co22, eo22⟩ := Kd.R_slice HO_4.out; subst eo22) | ((with_reducible refine gate_callee (f := 290) rfl ?_); refine goesL_ (some 20) rfl rfl Try.func290 (by kernel_rfl) rfl #[.slice Ao22 t2293.length co22, .agg #[.int .i64 ((rd_T26 t2296 x14_1).f0), .int .i64 ((rd_T26 t2296 x14_1).f1)]] rfl zn ?_; (with_reducible refine (spec_bdOn.calls k1 _ _ t2293 ((rd_T26 t2296 x14_1).f0) ((rd_T26 t2296 x14_1).f1) false _ ?side1 ?side2 A10.out).mono ?_); (case side1 => refine (Kd.R_reads' (e := 26) (base := w.heap.size) (ok := fun k_ => ((some k_ ≠ (u5 : Value).ownBlock ∧ (some k_ ≠ (u6 : Value).ownBlock ∧ some k_ ≠ (.slice (some ad2299) t2296.length co6 : Value).ownBlock)) ∧ k_ ≠ gb2300)) (n := t2293.length) (c := co22) ?_).2.2; exact (by (with_reducible repeat (first | apply Kd.R_alloc | apply Kd.R_drewN | apply Kd.R_drew)); exact (Kd.R_mono (Kd.R_far (p := ⟨gb2300, 1, none⟩) (Kd.R_far (p := ⟨gb2300, 0, none⟩) (Kd.R_mono HO_4.out (fun k_ hk => (⟨hk, hk.2⟩ : _ ∧ k_ ≠ gb2300))) (fun _ hk => hk.2) (.int .i64 ((rd_T26 t2296 x14_1).f0))) (fun _ hk => hk.2) (.int .i64 ((rd_T26 t2296 x14_1).f1))) (fun _ h_ => h_.1)))); (case side2 => exact (Kd.R_reads' HO_4.out).2.1); rintro e w23 ⟨rfl, hb⟩; refine ⟨_, rfl, ?_⟩; have n0_ := Aside0.mk (Kd.R_below (by (with_reducible repeat (first | apply Kd.R_alloc | apply Kd.R_drewN | apply Kd.R_drew)); exact (Kd.R_mono (Kd.R_far (p := ⟨gb2300, 1, none⟩) (Kd.R_far (p := ⟨gb2300, 0, none⟩) (Kd.R_mono HO_4.out (fun k_ hk => (⟨hk, hk.2⟩ : _ ∧ k_ ≠ gb2300))) (fun _ hk => hk.2) (.int .i64 ((rd_T26 t2296 x14_1).f0))) (fun _ hk => hk.2) (.int .i64 ((rd_T26 t2296 x14_1).f1))) (fun _ h_ => h_.1))) hb); have n1_ := Aside0.mk (Kd.R_below (by (with_reducible repeat (first | apply Kd.R_alloc | apply Kd.R_drewN | apply Kd.R_drew)); exact (Kd.R_mono (Kd.R_far (p := ⟨gb2300, 1, none⟩) (Kd.R_far (p := ⟨gb2300, 0, none⟩) (Kd.R_mono HO_5.out (fun k_ hk => (⟨hk, hk.2⟩ : _ ∧ k_ ≠ gb2300))) (fun _ hk => hk.2) (.int .i64 ((rd_T26 t2296 x14_1).f0))) (fun _ hk => hk.2) (.int .i64 ((rd_T26 t2296 x14_1).f1))) (fun _ h_ => h_.1))) hb); have n2_ := Aside0.mk (Kd.R_below (by (with_reducible repeat (first | apply Kd.R_alloc | apply Kd.R_drewN | apply Kd.R_drew)); exact (Kd.R_mono (Kd.R_far (p := ⟨gb2300, 1, none⟩) (Kd.R_far (p := ⟨gb2300, 0, none⟩) (Kd.R_mono HO_6.out (fun k_ hk => (⟨hk, hk.2⟩ : _ ∧ k_ ≠ gb2300))) (fun _ hk => hk.2) (.int .i64 ((rd_T26 t2296 x14_1).f0))) (fun _ hk => hk.2) (.int .i64 ((rd_T26 t2296 x14_1).f1))) (fun _ h_ => h_.1))) hb); have n3_ := Aside0.mk (Kd.R_below (by (with_reducible repeat (first | apply Kd.R_alloc | apply Kd.R_drewN | apply Kd.R_drew)); exact (Kd.R_mono (Kd.R_far (p := ⟨gb2300, 1, none⟩) (Kd.R_far (p := ⟨gb2300, 0, none⟩) (Kd.R_mono HO_12.out (fun k_ hk => (⟨hk, hk.2⟩ : _ ∧ k_ ≠ gb2300))) (fun _ hk => hk.2) (.int .i64 ((rd_T26 t2296 x14_1).f0))) (fun _ hk => hk.2) (.int .i64 ((rd_T26 t2296 x14_1).f1))) (fun _ h_ => h_.1))) hb); have n4_ := Aside0.mk (blk_below (g := gb2300) (o := .cells #[.int .i64 ((rd_T26 t2296 x14_1).f0), .int .i64 ((rd_T26 t2296 x14_1).f1)] 26 (0, 0)) (by (with_reducible repeat (first | refine blk_drewN ?_ _ | refine blk_drew ?_ | refine blk_alloc ?_ _)); refine blk_put (cs := #[.int .i64 ((rd_T26 t2296 x14_1).f0), .int .i64 0]) ?_ 1 _ rfl; (with_reducible repeat (first | refine blk_drewN ?_ _ | refine blk_drew ?_ | refine blk_alloc ?_ _)); refine blk_put (cs := #[.int .i64 0, .int .i64 0]) ?_ 0 _ rfl; (with_reducible repeat (first | refine blk_drewN ?_ _ | refine blk_drew ?_ | refine blk_alloc ?_ _)); exact BK2300.out) hb); have n5_ := Aside0.mk (below_step zb hb); clear HO_4; clear HO_5; clear HO_6; clear HO_12; clear BK2300; clear HB; have HO_4 := n0_; have HO_5 := n1_; have HO_6 := n2_; have HO_12 := n3_; have BK2300 := n4_; have HB := n5_; clear n0_ n1_ n2_ n3_ n4_ n5_; (try clear hb); (try clear hb2); (try clear hk); (try clear hi); have hcz24_0 : w23.cell? ⟨gb2300, 0, none⟩ = some (.int .i64 ((rd_T26 t2296 x14_1).f0)) := (blk_cell BK2300.out 0).trans rfl; have hcz24_1 : w23.cell? ⟨gb2300, 1, none⟩ = some (.int .i64 ((rd_T26 t2296 x14_1).f1)) := (blk_cell BK2300.out 1).trans rfl; have hfz24_0 := blk_frozen BK2300.out 0; have hfz24_1 := blk_frozen BK2300.out 1) | ((with_reducible refine gate_builtin (b := .append) (xs := #[.tmp 25, .tmp 27]) rfl ?_); at_builtin; refine Kd.R_append k26 (w0 := w) w.heap.size rfl (.tmp 25) (.tmp 27) 24 26 (.agg #[(.int .i64 0), (.int .i64 0)]) 16 rfl Try.underlying24 info26 rfl (by decide) (by omega) u6 x6_1 (⟨(rd_T26 t2296 x14_1).f0, (rd_T26 t2296 x14_1).f1⟩ : S26) [.int .i64 ((rd_T26 t2296 x14_1).f0), .int .i64 ((rd_T26 t2296 x14_1).f1)] (fun k_ => some k_ ≠ (.slice Ao22 t2293.length co22 : Value).ownBlock ∧ some k_ ≠ (u5 : Value).ownBlock ∧ some k_ ≠ (.slice (some ad2299) t2296.length co6 : Value).ownBlock ∧ k_ ≠ gb2300) (fun _ => False) rfl rfl ?aP (fun _ hk => hk.elim) ?aF ?aO ?aB ?aS ?aL ?_; (case aP => exact k26_mkM _ _ _ (⟨(rd_T26 t2296 x14_1).f0, (rd_T26 t2296 x14_1).f1⟩ : S26)); (case aB => exact zb); (case aF => exact (fun k_ hk => ⟨Kd.fresh' (Kd.R_lt (by (with_reducible repeat (first | apply Kd.R_alloc | apply Kd.R_drewN | apply Kd.R_drew)); exact HO_4.out)) k_ hk, Kd.fresh' (Kd.R_lt (by (with_reducible repeat (first | apply Kd.R_alloc | apply Kd.R_drewN | apply Kd.R_drew)); exact HO_5.out)) k_ hk, Kd.fresh' (Kd.R_lt (by (with_reducible repeat (first | apply Kd.R_alloc | apply Kd.R_drewN | apply Kd.R_drew)); exact HO_12.out)) k_ hk, Kd.freshB (g := gb2300) (o := .cells #[.int .i64 ((rd_T26 t2296 x14_1).f0), .int .i64 ((rd_T26 t2296 x14_1).f1)] 26 (0, 0)) zk k_ hk⟩)); (case aO => exact (by (with_reducible repeat (first | apply Kd.R_alloc | apply Kd.R_drewN | apply Kd.R_drew)); exact Kd.R_mono HO_6.out (fun _ hk => ⟨hk.1.1, ⟨hk.1.2.1, ⟨hk.1.2.2, hk.2⟩⟩⟩))); (case aS => exact (below_size zb)); (case aL => have := LMc19.out; omega); intro v2306 w25 ho hb hg hat; rw [← Ny2305.out] at ho; have n0_ := Aside0.mk (Kd.R_after (ok := (fun k_ => some k_ ≠ (u5 : Value).ownBlock ∧ some k_ ≠ (.slice (some ad2299) t2296.length co6 : Value).ownBlock ∧ k_ ≠ gb2300)) (by (with_reducible repeat (first | apply Kd.R_alloc | apply Kd.R_drewN | apply Kd.R_drew)); exact Kd.R_mono HO_4.out (fun _ hk => ⟨⟨hk.1.1, ⟨hk.1.2.2, hk.2⟩⟩, hk.1.2.1⟩)) hg hat); have n1_ := Aside0.mk (Kd.R_after (ok := (fun k_ => some k_ ≠ (.slice Ao22 t2293.length co22 : Value).ownBlock ∧ some k_ ≠ (.slice (some ad2299) t2296.length co6 : Value).ownBlock ∧ k_ ≠ gb2300)) (by (with_reducible repeat (first | apply Kd.R_alloc | apply Kd.R_drewN | apply Kd.R_drew)); exact Kd.R_mono HO_5.out (fun _ hk => ⟨⟨hk.1.1, ⟨hk.1.2.2, hk.2⟩⟩, hk.1.2.1⟩)) hg hat); have n2_ := Aside0.mk (Kd.R_after (ok := (fun k_ => some k_ ≠ (.slice Ao22 t2293.length co22 : Value).ownBlock ∧ some k_ ≠ (u5 : Value).ownBlock ∧ k_ ≠ gb2300)) (by (with_reducible repeat (first | apply Kd.R_alloc | apply Kd.R_drewN | apply Kd.R_drew)); exact Kd.R_mono HO_12.out (fun _ hk => ⟨⟨hk.1.1, ⟨hk.1.2.1, hk.2⟩⟩, hk.1.2.2⟩)) hg hat); have n3_ := Aside0.mk (blk_grown (g := gb2300) (o := .cells #[.int .i64 ((rd_T26 t2296 x14_1).f0), .int .i64 ((rd_T26 t2296 x14_1).f1)] 26 (0, 0)) zk hg (Kd.R_away HO_6.out (fun _ hk => hk.2))); have n4_ := Aside0.mk (hb); have n5_ := Aside0.mk (ho); clear HO_4; clear HO_5; clear HO_12; clear BK2300; clear HB; clear HO_6; have HO_4 := n0_; have HO_5 := n1_; have HO_12 := n2_; have BK2300 := n3_; have HB := n4_; have HO2307 := n5_; clear n0_ n1_ n2_ n3_ n4_ n5_; clear ho hb hg hat))
        go_roundg k1
        case measure => have := HK1.out; omega
        case rel => exact ⟨(x5_1), (y2305), (wrap64 (x14_1 + 1)), (by first | rfl | (simp; done) | (simp [*]; done)), H', ⟨by have := HK1.out; omega⟩, ⟨by (with_reducible repeat (first | apply Kd.R_alloc | apply Kd.R_drewN | apply Kd.R_drew)); exact Kd.R_mono HO_4.out (fun _ hk => ⟨hk.1.1, ⟨hk.2, hk.1.2.1⟩⟩)⟩, ⟨by (with_reducible repeat (first | apply Kd.R_alloc | apply Kd.R_drewN | apply Kd.R_drew)); exact Kd.R_mono HO_5.out (fun _ hk => ⟨hk.1.1, ⟨hk.2, hk.1.2.1⟩⟩)⟩, ⟨by (with_reducible repeat (first | apply Kd.R_alloc | apply Kd.R_drewN | apply Kd.R_drew)); exact Kd.R_mono HO2307.out (fun _ hk => ⟨hk.1, ⟨hk.2.1, hk.2.2.1⟩⟩)⟩, ⟨by (with_reducible repeat (first | apply Kd.R_alloc | apply Kd.R_drewN | apply Kd.R_drew)); exact Kd.R_mono HO_12.out (fun _ hk => ⟨hk.1.1, ⟨hk.1.2.1, hk.2⟩⟩)⟩, ⟨zb⟩⟩
       ·rw [if_neg c19] at H
        exact absurd H (by simp)
     ·rw [if_neg c9] at H
      exact absurd H (by simp)
    ·rw [if_neg c8] at H
     exact absurd H (by simp)
   ·rw [if_neg c7] at H
    have c7b0 : decide (x14_1 < (t2296.length : Int)) = false := decide_eq_false c7
    clear c7
    simp only [Option.some.injEq, Prod.mk.injEq] at H
    obtain ⟨rfl, rfl⟩ := H
    go_wp2
    go_ret2
    exact ⟨_, _, by first | rfl | (simp [errW_none, errW_some] <;> rfl) | (simp [*, errW_none, errW_some] <;> rfl), by (with_reducible repeat (first | apply Kd.R_alloc | apply Kd.R_drewN | apply Kd.R_drew)); exact Kd.R_mono HO_5.out (fun _ hk => hk.2.1), by (with_reducible repeat (first | apply Kd.R_alloc | apply Kd.R_drewN | apply Kd.R_drew)); exact Kd.R_mono HO_6.out (fun _ hk => hk.2.1), zb⟩
def spec_bdLayers.l0 : Nat → List (S26) → List (List (S26)) → Option ((List (List (S26))))
 | 0, _, _ => none
 | k + 1, x0, x3 => if (x0.length : Int) > 0 then ((spec_bdOuter.f k x0).bind fun bt2308 => (if x3.length < 5864062014805 then (spec_bdLayers.l0 k bt2308.2 (x3 ++ [bt2308.1])) else (none))) else (some x3)
def spec_bdLayers.f (k : Nat) (l0 : List (S26)) : Option ((List (List (S26)))) := spec_bdLayers.l0 k l0 ([] : List (List (S26)))
set_option maxHeartbeats 8000000 in
set_option maxRecDepth 100000 in
theorem spec_bdLayers.calls (k : Nat) (P0_ : Nat → Prop) (A0 : Option Addr) (c0 : Nat) (l0 : List (S26)) (r : List (List (S26))) (w : World) (hs0 : Kd.V k26 26 w w.heap.size (fun k_ => P0_ k_) (.slice A0 l0.length c0) l0) (h : spec_bdLayers.f k l0 = some r) :
  Calls Try.prog 223 #[.slice A0 l0.length c0] w fun e w' => ∃ v0_ : Value, e = .returned (v0_) ∧ Kd.S (Kd.slice 26 k26) 24 w' w.heap.size (fun k_ => (w.heap.size ≤ k_)) v0_ r ∧ Below w.heap.size w w' := by
 have HO0 := Aside0.mk (show Kd.V k26 26 w w.heap.size (fun k_ => (P0_ k_ ∨ w.heap.size ≤ k_)) (.slice A0 l0.length c0) l0 from Kd.V_mono hs0 (fun k_ hk => .inl hk))
 have HB := Aside0.mk (Below.refl w.heap.size w)
 have H : (spec_bdLayers.l0 k l0 ([] : List (List (S26)))) = some r := h
 clear h
 have H' := Aside0.mk H
 clear H
 go_enter Try.func223, Try.ntmps223
 go_wp2
 go_loopg [0, 3] k (fun kq v0 v3 w' => ∃ (x0_1 : List (S26)) (x3_1 : List (List (S26))), Aside0 (spec_bdLayers.l0 kq x0_1 x3_1 = some r) ∧ Aside0 (kq ≤ k) ∧ Aside0 (Kd.V k26 26 w' w.heap.size (fun k_ => (P0_ k_ ∨ w.heap.size ≤ k_) ∧ some k_ ≠ (v3 : Value).ownBlock) v0 x0_1) ∧ Aside0 (Kd.S (Kd.slice 26 k26) 24 w' w.heap.size (fun k_ => (w.heap.size ≤ k_)) v3 x3_1) ∧ Aside0 (Below w.heap.size w w'))
 case atStart => exact ⟨(l0), (([] : List (List (S26)))), H', ⟨Nat.le_refl _⟩, ⟨by (with_reducible repeat (first | apply Kd.V_alloc | apply Kd.V_drewN | apply Kd.V_drew)); exact Kd.V_mono HO0.out (fun _ hk => ⟨hk, (by simp [Value.ownBlock])⟩)⟩, ⟨by first | exact Kd.S_nil _ _ _ _ _ | exact Kd.N_nil _ _ _ _ _ | exact Kd.V_nil _ _ _ _ _ | exact Kd.Q_nil _ _ _ _ _ | exact Kd.R_nil _ _ _ _ _⟩, ⟨zb⟩⟩
 case round =>
  clear H'
  obtain ⟨x0_1, x3_1, HA, HK1, HO_0, HO_3, HB⟩ := hrel
  cases gk with
  | zero => exact absurd HA.out (by simp [spec_bdLayers.l0])
  | succ k1 =>
   have H := HA.out
   clear HA
   simp only [spec_bdLayers.l0] at H
   by_cases c2 : (x0_1.length : Int) > 0
   ·rw [if_pos c2] at H
    have c2b0 : decide (0 < (x0_1.length : Int)) = true := decide_eq_true c2
    have c2b1 : decide (0 < x0_1.length) = true := decide_eq_true (by omega)
    clear c2
    replace H := Option.bind_eq_some_iff.mp H
    obtain ⟨⟨t2308, t2309⟩, A30, H⟩ := H
    replace H : (if x3_1.length < 5864062014805 then (spec_bdLayers.l0 k1 t2309 (x3_1 ++ [t2308])) else (none)) = some r := H
    have A3 := Aside0.mk A30
    clear A30
    by_cases c4 : x3_1.length < 5864062014805
    ·rw [if_pos c4] at H
     have LMc4 := Aside0.mk c4
     clear c4
     obtain ⟨y2314, hy2314⟩ : ∃ y_ : List (List (S26)), y_ = (x3_1 ++ [t2308]) := ⟨_, rfl⟩
     replace H : (spec_bdLayers.l0 k1 t2309 y2314) = some r := by first | (rw [hy2314]; with_reducible exact H) | (have H2_ := (Option.bind_some _ _).symm.trans H; rw [hy2314]; with_reducible exact H2_) | (have H2_ := (Option.bind_some _ _).symm.trans H; with_reducible exact H2_) | with_reducible exact H | (rw [hy2314]; exact H) | exact H
     have Ny2314 := Aside0.mk hy2314
     clear hy2314
     have H' := Aside0.mk H
     clear H
     obtain ⟨Ao5, co5, eo5⟩ := Kd.V_slice HO_0.out
     subst eo5
     go_wp2_with (first | ((with_reducible refine gate_callee (f := 264) rfl ?_); refine goesL_ (some 11) rfl rfl Try.func264 (by kernel_rfl) rfl #[.slice Ao5 x0_1.length co5] rfl zn ?_; (with_reducible refine (spec_bdOuter.calls k1 _ _ x0_1 t2308 t2309 _ ?side1 ?side2 A3.out).mono ?_); (case side1 => repeat (first | exact (Kd.V_reads' HO_0.out).2.2 | (with_reducible refine Kd.C_alloc ?_ _) | (with_reducible refine Kd.C_drewN ?_ _) | (with_reducible refine Kd.C_drew ?_))); (case side2 => exact (Kd.V_reads' HO_0.out).2.1); rintro e w6 ⟨v2310, v2312, rfl, ho0, ho1, hb⟩; refine ⟨_, rfl, ?_⟩; have n0_ := Aside0.mk (Kd.V_mono (Kd.V_told (Kd.V_told (Kd.V_old (by (with_reducible repeat (first | apply Kd.V_alloc | apply Kd.V_drewN | apply Kd.V_drew)); exact HO_0.out) hb) (Kd.R_base ho0)) (Kd.R_base ho1)) (fun _ h_ => h_.1)); have n1_ := Aside0.mk (Kd.S_mono (Kd.S_told (Kd.S_told (Kd.S_old (by (with_reducible repeat (first | apply Kd.S_alloc | apply Kd.S_drewN | apply Kd.S_drew)); exact HO_3.out) hb) (Kd.R_base ho0)) (Kd.R_base ho1)) (fun _ h_ => h_.1)); have n2_ := Aside0.mk (Kd.R_lower (Kd.R_newM (M := fun k_ => (w.heap.size ≤ k_)) ho0 (below_size zb) (fun k_ h_ => h_)) (below_size zb)); have n3_ := Aside0.mk (Kd.R_lower (Kd.R_newM (M := fun k_ => (w.heap.size ≤ k_)) ho1 (below_size zb) (fun k_ h_ => h_)) (below_size zb)); have n4_ := Aside0.mk (below_step zb hb); clear HO_0; clear HO_3; clear HB; have HO_0 := n0_; have HO_3 := n1_; have HO2311 := n2_; have HO2313 := n3_; have HB := n4_; clear n0_ n1_ n2_ n3_ n4_; (try clear hb); (try clear hb2); (try clear hk); (try clear hi); (try clear ho0); (try clear ho1); obtain ⟨Ao8, co8, eo8⟩ := Kd.R_slice HO2311.out; subst eo8) | ((with_reducible refine gate_builtin (b := .append) (xs := #[.tmp 14, .tmp 16]) rfl ?_); at_builtin; refine Kd.S_append (Kd.slice 26 k26) (w0 := w) w.heap.size rfl (.tmp 14) (.tmp 16) 38 24 (.slice none 0 0) 24 rfl Try.underlying38 info24 rfl (by decide) (by omega) u3 x3_1 t2308 [.slice Ao8 t2308.length co8] (fun k_ => (w.heap.size ≤ k_) ∧ some k_ ≠ (v2312 : Value).ownBlock) (fun k_ => some k_ = (.slice Ao8 t2308.length co8 : Value).ownBlock) rfl rfl ?aP (fun k_ hk_ => ((Kd.R_mono (ok' := fun k_ => ((fun k_ => (w.heap.size ≤ k_) ∧ some k_ ≠ (v2312 : Value).ownBlock)) k_ ∧ some k_ ≠ (u3 : Value).ownBlock) (Kd.R_apart' (HO2311.out) (Kd.S_typed HO_3.out) (by decide)) (fun k_ hk => ⟨⟨hk.1.1, hk.1.2⟩, hk.2⟩))).1 k_ hk_.symm) ?aF ?aO ?aB ?aS ?aL ?_; (case aP => exact Kd.M_row (Kd.R_mono (Kd.R_tight rfl (Kd.R_mono (ok' := fun k_ => ((fun k_ => (w.heap.size ≤ k_) ∧ some k_ ≠ (v2312 : Value).ownBlock)) k_ ∧ some k_ ≠ (u3 : Value).ownBlock) (Kd.R_apart' (HO2311.out) (Kd.S_typed HO_3.out) (by decide)) (fun k_ hk => ⟨⟨hk.1.1, hk.1.2⟩, hk.2⟩))) (fun _ h_ => h_))); (case aB => exact zb); (case aF => exact (fun k_ hk => ⟨(Nat.le_trans (below_size zb) hk), Kd.fresh' (Kd.R_lt (by (with_reducible repeat (first | apply Kd.R_alloc | apply Kd.R_drewN | apply Kd.R_drew)); exact HO2313.out)) k_ hk⟩)); (case aO => exact (by (with_reducible repeat (first | apply Kd.S_alloc | apply Kd.S_drewN | apply Kd.S_drew)); exact Kd.S_mono HO_3.out (fun k_ hk => ⟨⟨hk.1.1, hk.2⟩, fun e_ => hk.1.2 e_⟩))); (case aS => exact (below_size zb)); (case aL => have := LMc4.out; omega); intro v2315 w7 ho hb hg hat; rw [← Ny2314.out] at ho; have n0_ := Aside0.mk (Kd.V_afterv (ok := (fun k_ => (P0_ k_ ∨ w.heap.size ≤ k_) ∧ some k_ ≠ (.slice Ao8 t2308.length co8 : Value).ownBlock ∧ some k_ ≠ (v2312 : Value).ownBlock)) (by (with_reducible repeat (first | apply Kd.V_alloc | apply Kd.V_drewN | apply Kd.V_drew)); exact Kd.V_mono HO_0.out (fun _ hk => ⟨⟨hk.1.1.1, ⟨hk.1.2, hk.2⟩⟩, hk.1.1.2⟩)) hg hat); have n1_ := Aside0.mk (Kd.R_over' (by (with_reducible repeat (first | apply Kd.R_alloc | apply Kd.R_drewN | apply Kd.R_drew)); exact HO2313.out) (Kd.S_typed (by (with_reducible repeat (first | apply Kd.S_alloc | apply Kd.S_drewN | apply Kd.S_drew)); exact HO_3.out)) (by decide) hg); have n2_ := Aside0.mk (hb); have n3_ := Aside0.mk (ho); clear HO_0; clear HO2313; clear HB; clear HO_3; clear HO2311; have HO_0 := n0_; have HO2313 := n1_; have HB := n2_; have HO2316 := n3_; clear n0_ n1_ n2_ n3_; clear ho hb hg hat))
     go_roundg k1
     case measure => have := HK1.out; omega
     case rel => exact ⟨(t2309), (y2314), H', ⟨by have := HK1.out; omega⟩, ⟨Kd.V_mono (Kd.R_V (by (with_reducible repeat (first | apply Kd.R_alloc | apply Kd.R_drewN | apply Kd.R_drew)); exact Kd.R_apart' HO2313.out (Kd.S_typed HO2316.out) (by decide))) (fun k_ hk => by first | exact ⟨(.inr hk.1.1), hk.2⟩ | exact ⟨(.inr (hk.1)), hk.2⟩ | exact (.inr (hk)))⟩, ⟨by (with_reducible repeat (first | apply Kd.S_alloc | apply Kd.S_drewN | apply Kd.S_drew)); exact Kd.S_mono HO2316.out (fun _ hk => hk.1)⟩, ⟨zb⟩⟩
    ·rw [if_neg c4] at H
     exact absurd H (by simp)
   ·rw [if_neg c2] at H
    have c2b0 : decide (0 < (x0_1.length : Int)) = false := decide_eq_false c2
    have c2b1 : decide (0 < x0_1.length) = false := decide_eq_false (by omega)
    clear c2
    obtain rfl := Option.some.inj H
    obtain ⟨Ao9, co9, eo9⟩ := Kd.V_slice HO_0.out
    subst eo9
    go_wp2
    go_ret
    exact ⟨_, by first | rfl | (simp [errW_none, errW_some] <;> rfl) | (simp [*, errW_none, errW_some] <;> rfl), by (with_reducible repeat (first | apply Kd.S_alloc | apply Kd.S_drewN | apply Kd.S_drew)); exact HO_3.out, zb⟩
def spec_LayersOf.f (k : Nat) (l0 : List (S26)) : Option ((List (List (S26))) × Bool) := (spec_bdGood.f k l0).bind fun t2317 => (if t2317 = true then ((spec_bdLayers.f k l0).bind fun t2318 => (some (t2318, true))) else (some (([] : List (List (S26))), false)))
set_option maxHeartbeats 8000000 in
set_option maxRecDepth 100000 in
theorem spec_LayersOf.calls (k : Nat) (A0 : Option Addr) (c0 : Nat) (l0 : List (S26)) (r1 : List (List (S26))) (r2 : Bool) (w : World) (hr0 : Kd.C k26 w A0 l0.length l0) (hc0 : l0.length ≤ c0) (h : spec_LayersOf.f k l0 = some (r1, r2)) :
  Calls Try.prog 124 #[.slice A0 l0.length c0] w fun e w' => ∃ v0_ : Value, e = .returned (.tuple #[v0_, .bool r2]) ∧ Kd.S (Kd.slice 26 k26) 24 w' w.heap.size (fun _ => True) v0_ r1 ∧ Below w.heap.size w w' := by
 have HR0 := Aside0.mk hr0
 have HC0 := Aside0.mk hc0
 clear hr0 hc0
 have HB := Aside0.mk (Below.refl w.heap.size w)
 have H : ((spec_bdGood.f k l0).bind fun t2317 => (if t2317 = true then ((spec_bdLayers.f k l0).bind fun t2318 => (some (t2318, true))) else (some (([] : List (List (S26))), false)))) = some (r1, r2) := h
 clear h
 replace H := Option.bind_eq_some_iff.mp H
 obtain ⟨t2317, A20, H⟩ := H
 replace H : (if t2317 = true then ((spec_bdLayers.f k l0).bind fun t2318 => (some (t2318, true))) else (some (([] : List (List (S26))), false))) = some (r1, r2) := H
 have A2 := Aside0.mk A20
 clear A20
 by_cases c3 : t2317 = true
 ·subst c3
  have H1 : ((spec_bdLayers.f k l0).bind fun t2318 => (some (t2318, true))) = some (r1, r2) := by rw [if_pos rfl] at H; exact H
  clear H
  have H := H1
  clear H1
  replace H := Option.bind_eq_some_iff.mp H
  obtain ⟨t2318, A40, H⟩ := H
  replace H : (some (t2318, true)) = some (r1, r2) := H
  have A4 := Aside0.mk A40
  clear A40
  simp only [Option.some.injEq, Prod.mk.injEq] at H
  obtain ⟨rfl, rfl⟩ := H
  go_enter Try.func124, Try.ntmps124
  go_wp2_with (first | ((with_reducible refine gate_callee (f := 209) rfl ?_); refine goesL_ (some 5) rfl rfl Try.func209 (by kernel_rfl) rfl #[.slice A0 l0.length c0] rfl zn ?_; (with_reducible refine (spec_bdGood.calls k _ _ l0 true _ ?side1 ?side2 A2.out).mono ?_); (case side1 => repeat (first | exact HR0.out | (with_reducible refine Kd.C_alloc ?_ _) | (with_reducible refine Kd.C_drewN ?_ _) | (with_reducible refine Kd.C_drew ?_))); (case side2 => exact HC0.out); rintro e w5 ⟨rfl, hb⟩; refine ⟨_, rfl, ?_⟩; have n0_ := Aside0.mk (below_step zb hb); clear HB; have HB := n0_; clear n0_; (try clear hb); (try clear hb2); (try clear hk); (try clear hi)) | ((with_reducible refine gate_callee (f := 223) rfl ?_); refine goesL_ (some 8) rfl rfl Try.func223 (by kernel_rfl) rfl #[.slice A0 l0.length c0] rfl zn ?_; (with_reducible refine (spec_bdLayers.calls k (fun k_ => k_ < w.heap.size) _ _ l0 t2318 _ ?side1 A4.out).mono ?_); (case side1 => exact Kd.V_mk HC0.out (Kd.F_below (Kd.C_F k26_heap HR0.out) zb)); rintro e w6 ⟨v2319, rfl, ho0, hb⟩; refine ⟨_, rfl, ?_⟩; have n0_ := Aside0.mk (Kd.S_lower (Kd.S_mono (ok' := fun k_ => True) ho0 (fun _ hk_ => trivial)) (below_size zb)); have n1_ := Aside0.mk (below_step zb hb); clear HB; have HO2320 := n0_; have HB := n1_; clear n0_ n1_; (try clear hb); (try clear hb2); (try clear hk); (try clear hi); (try clear ho0)))
  go_ret2
  exact ⟨_, by first | rfl | (simp [errW_none, errW_some] <;> rfl) | (simp [*, errW_none, errW_some] <;> rfl), by (with_reducible repeat (first | apply Kd.S_alloc | apply Kd.S_drewN | apply Kd.S_drew)); exact HO2320.out, zb⟩
 ·replace c3 := Bool.eq_false_iff.mpr c3
  subst c3
  have H1 : (some (([] : List (List (S26))), false)) = some (r1, r2) := by rw [if_neg (show ¬ (false = true) by decide)] at H; exact H
  clear H
  have H := H1
  clear H1
  simp only [Option.some.injEq, Prod.mk.injEq] at H
  obtain ⟨rfl, rfl⟩ := H
  go_enter Try.func124, Try.ntmps124
  go_wp2_with (first | ((with_reducible refine gate_callee (f := 209) rfl ?_); refine goesL_ (some 5) rfl rfl Try.func209 (by kernel_rfl) rfl #[.slice A0 l0.length c0] rfl zn ?_; (with_reducible refine (spec_bdGood.calls k _ _ l0 false _ ?side1 ?side2 A2.out).mono ?_); (case side1 => repeat (first | exact HR0.out | (with_reducible refine Kd.C_alloc ?_ _) | (with_reducible refine Kd.C_drewN ?_ _) | (with_reducible refine Kd.C_drew ?_))); (case side2 => exact HC0.out); rintro e w7 ⟨rfl, hb⟩; refine ⟨_, rfl, ?_⟩; have n0_ := Aside0.mk (below_step zb hb); clear HB; have HB := n0_; clear n0_; (try clear hb); (try clear hb2); (try clear hk); (try clear hi)))
  go_ret2
  exact ⟨_, by first | rfl | (simp [errW_none, errW_some] <;> rfl) | (simp [*, errW_none, errW_some] <;> rfl), by first | exact Kd.S_nil _ _ _ _ _ | exact Kd.N_nil _ _ _ _ _ | exact Kd.V_nil _ _ _ _ _ | exact Kd.Q_nil _ _ _ _ _ | exact Kd.R_nil _ _ _ _ _, zb⟩
end Go.Proofs.Ytphpdfcblchpnaa.Q
namespace Go.Proofs.Ytphpdfcblchpnaa.M
abbrev Pg := Int × Int
def turn (a b c : Pg) : Int := (b.1 - a.1) * (c.2 - a.2) - (b.2 - a.2) * (c.1 - a.1)
def sgn (x : Int) : Int := if 0 < x then 1 else if x < 0 then -1 else 0
def onSeg (a b p : Pg) : Prop := turn a b p = 0 ∧ min a.1 b.1 ≤ p.1 ∧ p.1 ≤ max a.1 b.1 ∧ min a.2 b.2 ≤ p.2 ∧ p.2 ≤ max a.2 b.2
instance (a b p : Pg) : Decidable (onSeg a b p) := by unfold onSeg; infer_instance
def cross4 (a b c d : Pg) : Prop := sgn (turn a b c) * sgn (turn a b d) < 0 ∧ sgn (turn c d a) * sgn (turn c d b) < 0
instance (a b c d : Pg) : Decidable (cross4 a b c d) := by unfold cross4; infer_instance
def meets (a b c d : Pg) : Prop := cross4 a b c d ∨ onSeg a b c ∨ onSeg a b d ∨ onSeg c d a ∨ onSeg c d b
instance (a b c d : Pg) : Decidable (meets a b c d) := by unfold meets; infer_instance
def isPeg (p : Pg) : Prop := -40 ≤ p.1 ∧ p.1 ≤ 40 ∧ -40 ≤ p.2 ∧ p.2 ≤ 40
instance (p : Pg) : Decidable (isPeg p) := by unfold isPeg; infer_instance
def at' (l : List Pg) (i : Nat) : Pg := l.getD (i % l.length) (0, 0)
structure Poly (l : List Pg) : Prop where
  n3 : 3 ≤ l.length
  n10 : l.length ≤ 10
  pegs : ∀ p ∈ l, isPeg p
  diff : ∀ i j, j < i → i < l.length → at' l i ≠ at' l j
  turns : ∀ i, i < l.length → turn (at' l i) (at' l (i + 1)) (at' l (i + 2)) ≠ 0
  apart : ∀ i k, k + 1 < i → i < l.length → ¬ (i + 1 = l.length ∧ k = 0) → ¬ meets (at' l k) (at' l (k + 1)) (at' l i) (at' l (i + 1))
theorem mul_bd {x y A : Int} (h1 : -A ≤ x) (h2 : x ≤ A) (h3 : -A ≤ y) (h4 : y ≤ A) : -(A * A) ≤ x * y ∧ x * y ≤ A * A := by
  have a := Int.mul_nonneg (show 0 ≤ A - x by omega) (show 0 ≤ A - y by omega)
  have b := Int.mul_nonneg (show 0 ≤ A + x by omega) (show 0 ≤ A + y by omega)
  have c := Int.mul_nonneg (show 0 ≤ A - x by omega) (show 0 ≤ A + y by omega)
  have d := Int.mul_nonneg (show 0 ≤ A + x by omega) (show 0 ≤ A - y by omega)
  have e1 : (A - x) * (A - y) = A * A - A * y - x * A + x * y := by grind
  have e2 : (A + x) * (A + y) = A * A + A * y + x * A + x * y := by grind
  have e3 : (A - x) * (A + y) = A * A + A * y - x * A - x * y := by grind
  have e4 : (A + x) * (A - y) = A * A - A * y + x * A - x * y := by grind
  constructor <;> omega
theorem between_iff (a b p : Int) : (a - p) * (b - p) ≤ 0 ↔ min a b ≤ p ∧ p ≤ max a b := by
  constructor
  · intro h
    constructor
    · false_or_by_contra
      have := Int.mul_pos (show 0 < a - p by omega) (show 0 < b - p by omega)
      omega
    · false_or_by_contra
      have := Int.mul_pos (show 0 < p - a by omega) (show 0 < p - b by omega)
      have e : (p - a) * (p - b) = (a - p) * (b - p) := by grind
      omega
  · rintro ⟨h1, h2⟩
    by_cases h : a = p
    · subst h; simp
    by_cases h' : a ≤ p
    · have := Int.mul_nonneg (show 0 ≤ p - a by omega) (show 0 ≤ b - p by omega)
      have e : (p - a) * (b - p) = -((a - p) * (b - p)) := by grind
      omega
    · have := Int.mul_nonneg (show 0 ≤ a - p by omega) (show 0 ≤ p - b by omega)
      have e : (a - p) * (p - b) = -((a - p) * (b - p)) := by grind
      omega
theorem turn_self (a b : Pg) : turn a b a = 0 := by unfold turn; grind
end Go.Proofs.Ytphpdfcblchpnaa.M
namespace Go.Proofs.Ytphpdfcblchpnaa.M
def sumTo (f : Nat → Int) : Nat → Int
  | 0 => 0
  | n + 1 => sumTo f n + f n
def crosses (a b p : Pg) : Prop := (a.2 ≤ p.2 ∧ p.2 < b.2 ∧ 0 < turn a b p) ∨ (b.2 ≤ p.2 ∧ p.2 < a.2 ∧ turn a b p < 0)
instance (a b p : Pg) : Decidable (crosses a b p) := by unfold crosses; infer_instance
def cnt (l : List Pg) (p : Pg) : Nat → Int := sumTo (fun i => if crosses (at' l i) (at' l (i + 1)) p then 1 else 0)
def onRim (l : List Pg) (p : Pg) : Prop := ∃ i, i < l.length ∧ onSeg (at' l i) (at' l (i + 1)) p
noncomputable def whereA (l : List Pg) (p : Pg) : Int := @ite _ (onRim l p) (Classical.propDecidable _) 0 (if cnt l p l.length % 2 = 1 then 1 else -1)
theorem whereA_on {l : List Pg} {p : Pg} (h : onRim l p) : whereA l p = 0 := by unfold whereA; exact if_pos h
theorem whereA_off {l : List Pg} {p : Pg} (h : ¬ onRim l p) : whereA l p = if cnt l p l.length % 2 = 1 then 1 else -1 := by unfold whereA; exact if_neg h
theorem cnt_succ (l : List Pg) (p : Pg) (i : Nat) : cnt l p (i + 1) = cnt l p i + (if crosses (at' l i) (at' l (i + 1)) p then 1 else 0) := rfl
theorem sumTo_nonneg (f : Nat → Int) (n : Nat) (h : ∀ i, i < n → 0 ≤ f i) : 0 ≤ sumTo f n := by
  induction n with
  | zero => simp [sumTo]
  | succ n ih =>
    have h1 := ih (fun i hi => h i (by omega))
    have h2 := h n (by omega)
    simp only [sumTo]
    omega
theorem cnt_nonneg (l : List Pg) (p : Pg) (n : Nat) : 0 ≤ cnt l p n := sumTo_nonneg _ _ (fun i _ => by split <;> omega)
end Go.Proofs.Ytphpdfcblchpnaa.M
namespace Go.Proofs.Ytphpdfcblchpnaa.D
open Go.RowKit Go.Proofs.Ytphpdfcblchpnaa.Q Go.Proofs.YtphpdfcblchpnaaW.PrintWords Go.Proofs.YtphpdfcblchpnaaW.PrintLast Go.Proofs.YtphpdfcblchpnaaW.PrintMore
open Go.Proofs.Ytphpdfcblchpnaa.M
def pg (s : S26) : Pg := (s.f0, s.f1)
def pgs (l : List S26) : List Pg := l.map pg
theorem pgs_length (l : List S26) : (pgs l).length = l.length := by simp [pgs]
theorem w64 {x : Int} (h1 : -9000000000000000000 ≤ x) (h2 : x ≤ 9000000000000000000) : wrap64 x = x := by
  unfold wrap64
  omega
def B3 (p : Pg) : Prop := -1000 ≤ p.1 ∧ p.1 ≤ 1000 ∧ -1000 ≤ p.2 ∧ p.2 ≤ 1000
theorem B3_of_peg {p : Pg} (h : isPeg p) : B3 p := by
  unfold isPeg at h
  unfold B3
  omega
theorem mn_eq (a b : Int) : mn a b = min a b := by
  unfold mn
  split <;> omega
theorem mx_eq (a b : Int) : mx a b = max a b := by
  unfold mx
  split <;> omega
theorem within_eq (n a b : Int) : impl_within.f n a b = some (decide (a ≤ n ∧ n ≤ b)) := by
  unfold impl_within.f
  by_cases h : n ≥ a
  · rw [if_pos h]
    simp [show a ≤ n from h]
  · rw [if_neg h]
    simp [show ¬ a ≤ n from h]
theorem isPeg_eq (x y : Int) : impl_IsPeg.f x y = some (decide (isPeg (x, y))) := by
  unfold impl_IsPeg.f
  simp only [within_eq, Option.bind_some, decide_eq_true_eq]
  by_cases h : isPeg (x, y)
  · rw [decide_eq_true h, if_pos ⟨h.1, h.2.1⟩, decide_eq_true ⟨h.2.2.1, h.2.2.2⟩]
  · rw [decide_eq_false h]
    by_cases h1 : -40 ≤ x ∧ x ≤ 40
    · rw [if_pos h1, decide_eq_false (fun h2 => h ⟨h1.1, h1.2, h2⟩)]
    · rw [if_neg h1]
theorem tprod {a b c : Pg} (ha : B3 a) (hb : B3 b) (hc : B3 c) : -4000000 ≤ (b.1 - a.1) * (c.2 - a.2) ∧ (b.1 - a.1) * (c.2 - a.2) ≤ 4000000 ∧ -4000000 ≤ (b.2 - a.2) * (c.1 - a.1) ∧ (b.2 - a.2) * (c.1 - a.1) ≤ 4000000 := by
  unfold B3 at ha hb hc
  have h1 := mul_bd (x := b.1 - a.1) (y := c.2 - a.2) (A := 2000) (by omega) (by omega) (by omega) (by omega)
  have h2 := mul_bd (x := b.2 - a.2) (y := c.1 - a.1) (A := 2000) (by omega) (by omega) (by omega) (by omega)
  omega
theorem turn_eq {a b c : Pg} (ha : B3 a) (hb : B3 b) (hc : B3 c) : impl_turn.f a.1 a.2 b.1 b.2 c.1 c.2 = some (turn a b c) := by
  have h := tprod ha hb hc
  unfold B3 at ha hb hc
  unfold impl_turn.f impl_Peg_less.f impl_cross.f turn
  simp only [Option.bind_some]
  rw [w64 (x := b.1 - a.1) (by omega) (by omega), w64 (x := b.2 - a.2) (by omega) (by omega), w64 (x := c.1 - a.1) (by omega) (by omega), w64 (x := c.2 - a.2) (by omega) (by omega)]
  rw [w64 (x := (b.1 - a.1) * (c.2 - a.2)) (by omega) (by omega), w64 (x := (b.2 - a.2) * (c.1 - a.1)) (by omega) (by omega), w64 (by omega) (by omega)]
theorem isOn_eq {a b p : Pg} (ha : B3 a) (hb : B3 b) (hp : B3 p) : impl_isOn.f a.1 a.2 b.1 b.2 p.1 p.2 = some (decide (onSeg a b p)) := by
  unfold impl_isOn.f
  rw [turn_eq ha hb hp]
  simp only [Option.bind_some, within_eq, mn_eq, mx_eq]
  by_cases h : onSeg a b p
  · rw [decide_eq_true h, if_pos h.1, if_pos (decide_eq_true ⟨h.2.1, h.2.2.1⟩), decide_eq_true ⟨h.2.2.2.1, h.2.2.2.2⟩]
  · rw [decide_eq_false h]
    by_cases h0 : turn a b p = 0
    · rw [if_pos h0]
      by_cases h1 : min a.1 b.1 ≤ p.1 ∧ p.1 ≤ max a.1 b.1
      · rw [if_pos (decide_eq_true h1), decide_eq_false (fun h2 => h ⟨h0, h1.1, h1.2, h2⟩)]
      · rw [if_neg (by simpa using h1)]
    · rw [if_neg h0]
theorem rd_pg (l : List S26) (i : Nat) (h : i < l.length) : ((rd_T26 l (i : Int)).f0, (rd_T26 l (i : Int)).f1) = at' (pgs l) i := by
  unfold rd_T26 at' pgs
  rw [Int.toNat_natCast, List.length_map, Nat.mod_eq_of_lt h]
  simp [List.getD, h, pg]
theorem rd_f0 (l : List S26) (i : Nat) (h : i < l.length) : (rd_T26 l (i : Int)).f0 = (at' (pgs l) i).1 := by rw [← rd_pg l i h]
theorem rd_f1 (l : List S26) (i : Nat) (h : i < l.length) : (rd_T26 l (i : Int)).f1 = (at' (pgs l) i).2 := by rw [← rd_pg l i h]
theorem at'_mod (l : List Pg) (i : Nat) : at' l (i % l.length) = at' l i := by unfold at'; rw [Nat.mod_mod]
theorem tmod_nat (m n : Nat) : Int.tmod (m : Int) (n : Int) = ((m % n : Nat) : Int) := by
  rw [Int.ofNat_tmod]
theorem at_eq (l : List S26) (i : Nat) (h0 : 0 < l.length) (hl : l.length ≤ 1000000) : impl_at.f l (i : Int) = some (at' (pgs l) i) := by
  have hm : i % l.length < l.length := Nat.mod_lt _ h0
  have e : Int.tmod (wrap64 (Int.tmod (i : Int) (l.length : Int) + (l.length : Int))) (l.length : Int) = ((i % l.length : Nat) : Int) := by
    rw [tmod_nat, w64 (by omega) (by omega), ← Int.natCast_add, tmod_nat, Nat.add_mod_right, Nat.mod_mod]
  unfold impl_at.f
  rw [e, if_neg (by omega), if_pos (by omega), if_pos (by omega), rd_f0 l _ hm, rd_f1 l _ hm]
  have := at'_mod (pgs l) i
  rw [pgs_length] at this
  rw [this]
end Go.Proofs.Ytphpdfcblchpnaa.D
namespace Go.Proofs.Ytphpdfcblchpnaa.D
open Go.RowKit Go.Proofs.Ytphpdfcblchpnaa.Q Go.Proofs.YtphpdfcblchpnaaW.PrintWords Go.Proofs.YtphpdfcblchpnaaW.PrintLast Go.Proofs.YtphpdfcblchpnaaW.PrintMore
open Go.Proofs.Ytphpdfcblchpnaa.M
theorem loop_ev {β : Type} {L : Nat → Nat → Option β} {n : Nat} {r : Nat → β} (hn : Ev (fun k => L k n) (r n))
    (step : ∀ i, i < n → Ev (fun k => L k (i + 1)) (r (i + 1)) → Ev (fun k => L k i) (r i)) : ∀ i, i ≤ n → Ev (fun k => L k i) (r i) := by
  intro i hi
  obtain ⟨d, hd⟩ : ∃ d, d = n - i := ⟨_, rfl⟩
  induction d generalizing i with
  | zero =>
    have : i = n := by omega
    subst this
    exact hn
  | succ d ih => exact step i (by omega) (ih (i + 1) (by omega) (by omega))
theorem cast_succ (i : Nat) (h : i ≤ 100000000) : wrap64 ((i : Int) + 1) = ((i + 1 : Nat) : Int) := by
  rw [w64 (by omega) (by omega)]
  omega
noncomputable def dec (p : Prop) : Bool := @decide p (Classical.propDecidable p)
theorem dec_true {p : Prop} (h : p) : dec p = true := by unfold dec; exact @decide_eq_true p (Classical.propDecidable p) h
theorem dec_false {p : Prop} (h : ¬ p) : dec p = false := by unfold dec; exact @decide_eq_false p (Classical.propDecidable p) h
theorem dec_iff {p : Prop} : dec p = true ↔ p := by unfold dec; exact @decide_eq_true_iff p (Classical.propDecidable p)
theorem dec_congr {p q : Prop} (h : p ↔ q) : dec p = dec q := by
  by_cases k : p
  · rw [dec_true k, dec_true (h.mp k)]
  · rw [dec_false k, dec_false (fun q => k (h.mpr q))]
theorem decide_dec (p : Prop) [Decidable p] : decide p = dec p := by
  by_cases k : p
  · rw [dec_true k, decide_eq_true k]
  · rw [dec_false k, decide_eq_false k]
theorem at'_of (l : List Pg) (i : Nat) (h : i < l.length) : at' l i = l[i] := by
  unfold at'
  rw [Nat.mod_eq_of_lt h]
  simp [List.getD, h]
theorem index_ev (l : List S26) (p : Pg) (hl : l.length ≤ 1000000) : ∃ r : Int, Ev (fun k => impl_Peg_240.f k l p.1 p.2) r ∧ (r ≥ 0 ↔ p ∈ pgs l) := by
  have key : ∀ i, i ≤ l.length → ∃ r : Int, Ev (fun k => impl_Peg_240.l0 k l (l.length : Int) (i : Int) p.1 p.2) r ∧ (r ≥ 0 ↔ ∃ j, i ≤ j ∧ j < l.length ∧ at' (pgs l) j = p) := by
    intro i hi
    obtain ⟨d, hd⟩ : ∃ d, d = l.length - i := ⟨_, rfl⟩
    induction d generalizing i with
    | zero =>
      refine ⟨-1, Ev.step (fun k => by simp only [impl_Peg_240.l0]; rw [if_neg (by omega)]) (Ev.now _), ?_⟩
      constructor
      · intro h; omega
      · rintro ⟨j, h1, h2, _⟩; omega
    | succ d ih =>
      by_cases h : at' (pgs l) i = p
      · refine ⟨i, Ev.step (f := fun _ => some (i : Int)) (fun k => ?_) (Ev.now _), ?_⟩
        · simp only [impl_Peg_240.l0]
          rw [if_pos (by omega), if_pos (by omega), if_pos (by omega), rd_f0 l i (by omega), rd_f1 l i (by omega), h, if_pos (by simp)]
        · exact ⟨fun _ => ⟨i, Nat.le_refl _, by omega, h⟩, fun _ => by omega⟩
      · obtain ⟨r, hr, hiff⟩ := ih (i + 1) (by omega) (by omega)
        refine ⟨r, Ev.step (fun k => ?_) hr, ?_⟩
        · simp only [impl_Peg_240.l0]
          rw [if_pos (by omega), if_pos (by omega), if_pos (by omega), rd_f0 l i (by omega), rd_f1 l i (by omega), if_neg, cast_succ i (by omega)]
          intro hh
          apply h
          simp only [Bool.and_eq_true, beq_iff_eq] at hh
          exact Prod.ext hh.1.symm hh.2.symm
        · rw [hiff]
          constructor
          · rintro ⟨j, h1, h2, h3⟩
            exact ⟨j, by omega, h2, h3⟩
          · rintro ⟨j, h1, h2, h3⟩
            refine ⟨j, ?_, h2, h3⟩
            by_cases e : j = i
            · subst e; exact absurd h3 h
            · omega
  obtain ⟨r, hr, hiff⟩ := key 0 (Nat.zero_le _)
  refine ⟨r, hr, hiff.trans ?_⟩
  rw [List.mem_iff_getElem]
  constructor
  · rintro ⟨j, _, h2, h3⟩
    have hj : j < (pgs l).length := by rw [pgs_length]; exact h2
    exact ⟨j, hj, by rw [← at'_of _ _ hj]; exact h3⟩
  · rintro ⟨j, hj, h3⟩
    exact ⟨j, Nat.zero_le _, by rw [pgs_length] at hj; exact hj, by rw [at'_of _ _ hj]; exact h3⟩
theorem contains_ev (l : List S26) (p : Pg) (hl : l.length ≤ 1000000) : Ev (fun k => impl_Peg_172.f k l p.1 p.2) (dec (p ∈ pgs l)) := by
  obtain ⟨r, hr, hiff⟩ := index_ev l p hl
  refine Ev.congr (f := fun k => (impl_Peg_240.f k l p.1 p.2).bind fun t => some (decide (t ≥ 0))) (fun k => rfl) ?_
  refine Ev.bind hr ?_
  rw [decide_dec, dec_congr hiff]
  exact Ev.now _
theorem arePegs_ev (l : List S26) (hl : l.length ≤ 1000000) : Ev (fun k => impl_arePegs.f k l) (dec (∀ p ∈ pgs l, isPeg p)) := by
  have key : ∀ i, i ≤ l.length → ∃ r : Int, Ev (fun k => impl_Peg_271.l0 k l (l.length : Int) (i : Int)) r ∧ (r ≥ 0 ↔ ∃ j, i ≤ j ∧ j < l.length ∧ ¬ isPeg (at' (pgs l) j)) := by
    intro i hi
    obtain ⟨d, hd⟩ : ∃ d, d = l.length - i := ⟨_, rfl⟩
    induction d generalizing i with
    | zero =>
      refine ⟨-1, Ev.step (fun k => by simp only [impl_Peg_271.l0]; rw [if_neg (by omega)]) (Ev.now _), ?_⟩
      constructor
      · intro h; omega
      · rintro ⟨j, h1, h2, _⟩; omega
    | succ d ih =>
      by_cases h : isPeg (at' (pgs l) i)
      · obtain ⟨r, hr, hiff⟩ := ih (i + 1) (by omega) (by omega)
        refine ⟨r, Ev.step (fun k => ?_) hr, ?_⟩
        · simp only [impl_Peg_271.l0, impl_arePegs_1.f, isPeg_eq, Option.bind_some]
          rw [if_pos (by omega), if_pos (by omega), if_pos (by omega), rd_pg l i (by omega), decide_eq_true h, cast_succ i (by omega)]
          rfl
        · rw [hiff]
          constructor
          · rintro ⟨j, h1, h2, h3⟩
            exact ⟨j, by omega, h2, h3⟩
          · rintro ⟨j, h1, h2, h3⟩
            refine ⟨j, ?_, h2, h3⟩
            by_cases e : j = i
            · subst e; exact absurd h h3
            · omega
      · refine ⟨i, Ev.step (f := fun _ => some (i : Int)) (fun k => ?_) (Ev.now _), ?_⟩
        · simp only [impl_Peg_271.l0, impl_arePegs_1.f, isPeg_eq, Option.bind_some]
          rw [if_pos (by omega), if_pos (by omega), if_pos (by omega), rd_pg l i (by omega), decide_eq_false h]
          rfl
        · exact ⟨fun _ => ⟨i, Nat.le_refl _, by omega, h⟩, fun _ => by omega⟩
  obtain ⟨r, hr, hiff⟩ := key 0 (Nat.zero_le _)
  refine Ev.congr (f := fun k => ((impl_Peg_271.f k l).bind fun t => some (decide (t ≥ 0))).bind fun t => some (!t)) (fun k => rfl) ?_
  refine Ev.bind (Ev.bind hr (Ev.now _)) ?_
  have e : (!decide (r ≥ 0)) = dec (∀ p ∈ pgs l, isPeg p) := by
    by_cases h : r ≥ 0
    · rw [decide_eq_true h, dec_false]
      · rfl
      · intro hall
        obtain ⟨j, _, h2, h3⟩ := hiff.mp h
        have hj : j < (pgs l).length := by rw [pgs_length]; exact h2
        exact h3 (hall _ (by rw [at'_of _ _ hj]; exact List.getElem_mem hj))
    · rw [decide_eq_false h, dec_true]
      · rfl
      · intro p hp
        obtain ⟨j, hj, rfl⟩ := List.mem_iff_getElem.mp hp
        false_or_by_contra
        rename_i hn
        exact h (hiff.mpr ⟨j, Nat.zero_le _, by rw [pgs_length] at hj; exact hj, by rw [at'_of _ _ hj]; exact hn⟩)
  rw [e]
  exact Ev.now _
end Go.Proofs.Ytphpdfcblchpnaa.D
namespace Go.Proofs.Ytphpdfcblchpnaa.D
open Go.RowKit Go.Proofs.Ytphpdfcblchpnaa.Q Go.Proofs.YtphpdfcblchpnaaW.PrintWords Go.Proofs.YtphpdfcblchpnaaW.PrintLast Go.Proofs.YtphpdfcblchpnaaW.PrintMore
open Go.Proofs.Ytphpdfcblchpnaa.M
def Peg3 (l : List Pg) : Prop := ∀ p ∈ l, isPeg p
theorem Peg3.b3 {l : List Pg} (h : Peg3 l) (h0 : 0 < l.length) (i : Nat) : B3 (at' l i) := by
  have hm : i % l.length < l.length := Nat.mod_lt _ h0
  rw [← at'_mod, at'_of _ _ hm]
  exact B3_of_peg (h _ (List.getElem_mem hm))
end Go.Proofs.Ytphpdfcblchpnaa.D
namespace Go.Proofs.Ytphpdfcblchpnaa.D
open Go.RowKit Go.Proofs.Ytphpdfcblchpnaa.Q Go.Proofs.YtphpdfcblchpnaaW.PrintWords Go.Proofs.YtphpdfcblchpnaaW.PrintLast Go.Proofs.YtphpdfcblchpnaaW.PrintMore
open Go.Proofs.Ytphpdfcblchpnaa.M
theorem l1In_eq (n a b : Int) : spec_l1In.f n a b = some (decide (a ≤ n ∧ n ≤ b)) := by
  unfold spec_l1In.f
  by_cases h : n ≥ a
  · rw [if_pos h]
    simp [show a ≤ n from h]
  · rw [if_neg h]
    simp [show ¬ a ≤ n from h]
theorem pgIs_eq (x y : Int) : spec_pgIs.f x y = some (decide (isPeg (x, y))) := by
  unfold spec_pgIs.f
  simp only [l1In_eq, Option.bind_some, decide_eq_true_eq]
  by_cases h : isPeg (x, y)
  · rw [decide_eq_true h, if_pos ⟨h.1, h.2.1⟩, decide_eq_true ⟨h.2.2.1, h.2.2.2⟩]
  · rw [decide_eq_false h]
    by_cases h1 : -40 ≤ x ∧ x ≤ 40
    · rw [if_pos h1, decide_eq_false (fun h2 => h ⟨h1.1, h1.2, h2⟩)]
    · rw [if_neg h1]
theorem pgTurn_eq {a b c : Pg} (ha : B3 a) (hb : B3 b) (hc : B3 c) : spec_pgTurn.f a.1 a.2 b.1 b.2 c.1 c.2 = some (turn a b c) := by
  have h := tprod ha hb hc
  unfold B3 at ha hb hc
  unfold spec_pgTurn.f turn
  rw [w64 (x := b.1 - a.1) (by omega) (by omega), w64 (x := b.2 - a.2) (by omega) (by omega), w64 (x := c.1 - a.1) (by omega) (by omega), w64 (x := c.2 - a.2) (by omega) (by omega)]
  rw [w64 (x := (b.1 - a.1) * (c.2 - a.2)) (by omega) (by omega), w64 (x := (b.2 - a.2) * (c.1 - a.1)) (by omega) (by omega), w64 (by omega) (by omega)]
theorem pgOn_eq {a b p : Pg} (ha : B3 a) (hb : B3 b) (hp : B3 p) : spec_pgOn.f a.1 a.2 b.1 b.2 p.1 p.2 = some (decide (onSeg a b p)) := by
  unfold spec_pgOn.f
  rw [pgTurn_eq ha hb hp]
  simp only [Option.bind_some]
  unfold B3 at ha hb hp
  have h1 := mul_bd (x := a.1 - p.1) (y := b.1 - p.1) (A := 2000) (by omega) (by omega) (by omega) (by omega)
  have h2 := mul_bd (x := a.2 - p.2) (y := b.2 - p.2) (A := 2000) (by omega) (by omega) (by omega) (by omega)
  rw [w64 (x := a.1 - p.1) (by omega) (by omega), w64 (x := b.1 - p.1) (by omega) (by omega), w64 (x := a.2 - p.2) (by omega) (by omega), w64 (x := b.2 - p.2) (by omega) (by omega), w64 (by omega) (by omega), w64 (by omega) (by omega)]
  have e1 := between_iff a.1 b.1 p.1
  have e2 := between_iff a.2 b.2 p.2
  by_cases h : onSeg a b p
  · rw [decide_eq_true h, if_pos h.1, if_pos (e1.mpr ⟨h.2.1, h.2.2.1⟩), decide_eq_true (e2.mpr ⟨h.2.2.2.1, h.2.2.2.2⟩)]
  · rw [decide_eq_false h]
    by_cases h0 : turn a b p = 0
    · rw [if_pos h0]
      by_cases h3 : (a.1 - p.1) * (b.1 - p.1) ≤ 0
      · rw [if_pos h3, decide_eq_false (fun h4 => h ⟨h0, (e1.mp h3).1, (e1.mp h3).2, (e2.mp h4).1, (e2.mp h4).2⟩)]
      · rw [if_neg h3]
    · rw [if_neg h0]
theorem rdm0 (l : List S26) (i : Nat) (h : 0 < l.length) : (rd_T26 l ((i % l.length : Nat) : Int)).f0 = (at' (pgs l) i).1 := by
  rw [rd_f0 l _ (Nat.mod_lt _ h)]
  have := at'_mod (pgs l) i
  rw [pgs_length] at this
  rw [this]
theorem rdm1 (l : List S26) (i : Nat) (h : 0 < l.length) : (rd_T26 l ((i % l.length : Nat) : Int)).f1 = (at' (pgs l) i).2 := by
  rw [rd_f1 l _ (Nat.mod_lt _ h)]
  have := at'_mod (pgs l) i
  rw [pgs_length] at this
  rw [this]
theorem tmod_add (i j n : Nat) (h : i + j ≤ 1000000) : Int.tmod (wrap64 ((i : Int) + (j : Int))) (n : Int) = (((i + j) % n : Nat) : Int) := by
  rw [w64 (by omega) (by omega), ← Int.natCast_add, tmod_nat]
end Go.Proofs.Ytphpdfcblchpnaa.D
namespace Go.Proofs.Ytphpdfcblchpnaa.D
open Go.RowKit Go.Proofs.Ytphpdfcblchpnaa.Q Go.Proofs.YtphpdfcblchpnaaW.PrintWords Go.Proofs.YtphpdfcblchpnaaW.PrintLast Go.Proofs.YtphpdfcblchpnaaW.PrintMore
open Go.Proofs.Ytphpdfcblchpnaa.M
def to26 (s : S97) : S26 := ⟨s.f0, s.f1⟩
theorem toPegS_loop (l : List S97) (hl : l.length ≤ 2000000) : ∀ (d i : Nat) (x : List S26), l.length - i = d → i ≤ l.length → x.length = l.length → x.take i = (l.map to26).take i →
    Ev (fun k => laws_toPegS.l0 k l x (i : Int)) (l.map to26) := by
  intro d
  induction d with
  | zero =>
    intro i x hd hi hx ht
    obtain rfl : i = l.length := by omega
    refine Ev.step (f := fun _ => some x) (fun k => ?_) ?_
    · simp only [laws_toPegS.l0]
      rw [if_neg (by omega)]
    · have e : x = l.map to26 := by
        rw [← hx, List.take_length] at ht
        rw [ht, hx, List.take_of_length_le (by simp)]
      rw [← e]
      exact Ev.now _
  | succ d ih =>
    intro i x hd hi hx ht
    have hr : rd_T97 l (i : Int) = l[i]'(by omega) := by
      have h : i < l.length := by omega
      simp [rd_T97, List.getD, h]
    refine Ev.step (f := fun k => laws_toPegS.l0 k l (x.set i (to26 (l[i]'(by omega)))) ((i + 1 : Nat) : Int)) (fun k => ?_) (ih (i + 1) (x.set i (to26 (l[i]'(by omega)))) (by omega) (by omega) (by simpa using hx) ?_)
    · simp only [laws_toPegS.l0]
      rw [if_pos (by omega), if_pos (by omega), hr, cast_succ i (by omega)]
      simp only [laws_toPeg.f, Option.bind_some]
      rw [if_pos (by omega), Int.toNat_natCast]
      rfl
    · rw [List.take_succ_eq_append_getElem (by simp; omega), List.take_succ_eq_append_getElem (by simp; omega), List.take_set_of_le (Nat.le_refl _), ht]
      simp
theorem toPegS_ev (l : List S97) (hl : l.length ≤ 2000000) : Ev (fun k => laws_toPegS.f k l) (l.map to26) := by
  refine Ev.congr (f := fun k => laws_toPegS.l0 k l (List.replicate l.length z26) ((0 : Nat) : Int)) (fun k => ?_) (toPegS_loop l hl l.length 0 _ (by omega) (by omega) (by simp) (by simp))
  unfold laws_toPegS.f
  rw [if_pos (by omega), if_pos (by omega), Int.toNat_natCast]
  rfl
theorem eqPegS_ev (l : List S26) (hl : l.length ≤ 2000000) : Ev (fun k => laws_eqPegS.f k l l) true := by
  have key : ∀ d i : Nat, l.length - i = d → i ≤ l.length → Ev (fun k => laws_eqPegS.l0 k l l (i : Int)) true := by
    intro d
    induction d with
    | zero =>
      intro i hd hi
      refine Ev.step (f := fun _ => some true) (fun k => ?_) (Ev.now _)
      simp only [laws_eqPegS.l0]
      rw [if_neg (by omega)]
    | succ d ih =>
      intro i hd hi
      refine Ev.step (fun k => ?_) (ih (i + 1) (by omega) (by omega))
      simp only [laws_eqPegS.l0]
      rw [if_pos (by omega), if_pos (by omega), if_pos (by omega), cast_succ i (by omega)]
      simp [laws_eqPeg.f]
  refine Ev.congr (fun k => ?_) (key l.length 0 (by omega) (by omega))
  unfold laws_eqPegS.f
  rw [if_pos rfl]
  rfl
end Go.Proofs.Ytphpdfcblchpnaa.D
namespace Go.Proofs.Ytphpdfcblchpnaa.D
open Go.RowKit Go.Proofs.Ytphpdfcblchpnaa.Q Go.Proofs.YtphpdfcblchpnaaW.PrintWords Go.Proofs.YtphpdfcblchpnaaW.PrintLast Go.Proofs.YtphpdfcblchpnaaW.PrintMore
open Go.Proofs.Ytphpdfcblchpnaa.M
def AllB3 (l : List Pg) : Prop := ∀ i, B3 (at' l i)
theorem Peg3.all {l : List Pg} (h : Peg3 l) (h0 : 0 < l.length) : AllB3 l := fun i => h.b3 h0 i
theorem _root_.Go.Proofs.Ytphpdfcblchpnaa.M.Poly.all {l : List Pg} (h : Poly l) : AllB3 l := Peg3.all h.pegs (by have := h.n3; omega)
theorem where_ev (l : List S26) (h0 : 0 < l.length) (hl : l.length ≤ 1000) (hB : AllB3 (pgs l)) (p : Pg) (hp : B3 p) : Ev (fun k => impl_where.f k l p.1 p.2) (whereA (pgs l) p) := by
  have key : ∀ i, i ≤ l.length → (∀ j, j < i → ¬ onSeg (at' (pgs l) j) (at' (pgs l) (j + 1)) p) → Ev (fun k => impl_where.l0 k l (if cnt (pgs l) p i % 2 = 1 then 1 else -1) l (l.length : Int) (i : Int) p.1 p.2) (whereA (pgs l) p) := by
    intro i hi
    obtain ⟨d, hd⟩ : ∃ d, d = l.length - i := ⟨_, rfl⟩
    induction d generalizing i with
    | zero =>
      intro hno
      have hii : i = l.length := by omega
      have hoff : ¬ onRim (pgs l) p := by
        rintro ⟨j, h1, h2⟩
        rw [pgs_length] at h1
        exact hno j (by omega) h2
      rw [whereA_off hoff, pgs_length, hii]
      refine Ev.step (f := fun _ => some _) (fun k => ?_) (Ev.now _)
      simp only [impl_where.l0]
      rw [if_neg (by omega)]
    | succ d ih =>
      intro hno
      have hi' : i < l.length := by omega
      by_cases hon : onSeg (at' (pgs l) i) (at' (pgs l) (i + 1)) p
      · rw [whereA_on ⟨i, by rw [pgs_length]; exact hi', hon⟩]
        refine Ev.step (f := fun _ => some _) (fun k => ?_) (Ev.now _)
        simp only [impl_where.l0]
        rw [if_pos (by omega), if_pos (by omega), if_pos (by omega), cast_succ i (by omega), at_eq l (i + 1) h0 (by omega), rd_f0 l i hi', rd_f1 l i hi']
        simp only [Option.bind_some]
        rw [isOn_eq (hB i) (hB (i + 1)) hp, decide_eq_true hon]
        simp
      · have h := ih (i + 1) (by omega) (by omega) (fun j hj => by
          by_cases ej : j = i
          · subst ej; exact hon
          · exact hno j (by omega))
        refine Ev.step (fun k => ?_) h
        simp only [impl_where.l0]
        rw [if_pos (by omega), if_pos (by omega), if_pos (by omega), cast_succ i (by omega), at_eq l (i + 1) h0 (by omega), rd_f0 l i hi', rd_f1 l i hi']
        simp only [Option.bind_some]
        rw [isOn_eq (hB i) (hB (i + 1)) hp, decide_eq_false hon]
        simp only [Option.bind_some, Bool.false_eq_true, if_false]
        rw [turn_eq (hB i) (hB (i + 1)) hp]
        simp only [Option.bind_some]
        rw [cnt_succ]
        have hc := cnt_nonneg (pgs l) p i
        generalize at' (pgs l) i = a at *
        generalize at' (pgs l) (i + 1) = b at *
        have ht0 : turn a b p = 0 → ((a.2 ≤ p.2 ∧ p.2 < b.2) ∨ (b.2 ≤ p.2 ∧ p.2 < a.2)) → False := by
          intro ht hy
          apply hon
          refine ⟨ht, ?_⟩
          -- the point lies on the line, between the ends' heights
          have hx : min a.1 b.1 ≤ p.1 ∧ p.1 ≤ max a.1 b.1 := by
            rw [← between_iff]
            have e : ((a.1 - p.1) * (b.1 - p.1)) * ((b.2 - a.2) * (b.2 - a.2)) = (((b.1 - a.1) * (b.1 - a.1)) * ((a.2 - p.2) * (b.2 - p.2))) := by
              unfold turn at ht
              grind
            false_or_by_contra
            rename_i hpos
            have hq : 0 < (b.2 - a.2) * (b.2 - a.2) := by
              rcases hy with hy | hy
              · exact Int.mul_pos (by omega) (by omega)
              · have := Int.mul_pos (show 0 < a.2 - b.2 by omega) (show 0 < a.2 - b.2 by omega)
                have e2 : (a.2 - b.2) * (a.2 - b.2) = (b.2 - a.2) * (b.2 - a.2) := by grind
                omega
            have h1 := Int.mul_pos (show 0 < (a.1 - p.1) * (b.1 - p.1) by omega) hq
            have h2 : (a.2 - p.2) * (b.2 - p.2) ≤ 0 := (between_iff _ _ _).mpr (by omega)
            have h3 : 0 ≤ (b.1 - a.1) * (b.1 - a.1) := by
              by_cases hs : 0 ≤ b.1 - a.1
              · exact Int.mul_nonneg hs hs
              · have := Int.mul_nonneg (show 0 ≤ a.1 - b.1 by omega) (show 0 ≤ a.1 - b.1 by omega)
                have e2 : (a.1 - b.1) * (a.1 - b.1) = (b.1 - a.1) * (b.1 - a.1) := by grind
                omega
            have h4 := Int.mul_nonneg h3 (show 0 ≤ -((a.2 - p.2) * (b.2 - p.2)) by omega)
            have e3 : (b.1 - a.1) * (b.1 - a.1) * -((a.2 - p.2) * (b.2 - p.2)) = -(((b.1 - a.1) * (b.1 - a.1)) * ((a.2 - p.2) * (b.2 - p.2))) := by grind
            omega
          exact ⟨hx.1, hx.2, by omega, by omega⟩
        have hflip : wrap64 (-(if cnt (pgs l) p i % 2 = 1 then (1 : Int) else -1)) = if (cnt (pgs l) p i + 1) % 2 = 1 then 1 else -1 := by
          by_cases hp2 : cnt (pgs l) p i % 2 = 1
          · rw [if_pos hp2, if_neg (by omega), w64 (by decide) (by decide)]
          · rw [if_neg hp2, if_pos (by omega), w64 (by decide) (by decide)]; rfl
        by_cases h1 : a.2 > p.2 <;> by_cases h2 : b.2 > p.2
        · have hnc : ¬ crosses a b p := by unfold crosses; omega
          rw [if_neg (by simp [h1, h2]), if_neg hnc, Int.add_zero]
        · rw [if_pos (by simp [h1, h2])]
          have hne : turn a b p ≠ 0 := fun ht => ht0 ht (by omega)
          have hba : ¬ b.2 > a.2 := by omega
          by_cases ht : turn a b p > 0
          · have hnc : ¬ crosses a b p := by unfold crosses; omega
            rw [if_neg (by simp [ht, hba]), if_neg hnc, Int.add_zero]
          · have hcr : crosses a b p := by unfold crosses; omega
            rw [if_pos (by simp [ht, hba]), if_pos hcr, hflip]
        · rw [if_pos (by simp [h1, h2])]
          have hne : turn a b p ≠ 0 := fun ht => ht0 ht (by omega)
          have hba : b.2 > a.2 := by omega
          by_cases ht : turn a b p > 0
          · have hcr : crosses a b p := by unfold crosses; omega
            rw [if_pos (by simp [ht, hba]), if_pos hcr, hflip]
          · have hnc : ¬ crosses a b p := by unfold crosses; omega
            rw [if_neg (by simp [ht, hba]), if_neg hnc, Int.add_zero]
        · have hnc : ¬ crosses a b p := by unfold crosses; omega
          rw [if_neg (by simp [h1, h2]), if_neg hnc, Int.add_zero]
  have h := key 0 (Nat.zero_le _) (fun j hj => by omega)
  exact h
end Go.Proofs.Ytphpdfcblchpnaa.D
