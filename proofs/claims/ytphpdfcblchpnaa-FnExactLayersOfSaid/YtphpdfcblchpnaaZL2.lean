/- Parts of the proof: printed texts, words and own texts, cut to what is used. -/
import Derived.Test.YtphpdfcblchpnaaZL1
namespace Go.Proofs.Ytphpdfcblchpnaa.Q
open Go.RowKit Go.Proofs.YtphpdfcblchpnaaW.PrintWords Go.Proofs.YtphpdfcblchpnaaW.PrintLast Go.Proofs.YtphpdfcblchpnaaW.PrintMore
attribute [local go_sem] max2_int min2_int max_two min_two max_three min_three max_four min_four   -- for this text's walks alone
set_option linter.unusedVariables false
set_option linter.unusedSimpArgs false
attribute [local go_sem high] eqA26
mutual
def spec_bdGood.l0 : Nat → List (S26) → List (S26) → Int → Int → Option (Bool)
 | 0, _, _, _, _ => none
 | k + 1, x0, x11, x12, x13 => if x13 < x12 then (if 0 ≤ x13 then (if x13 < (x11.length : Int) then ((spec_pgIs.f ((rd_T26 x11 x13).f0) ((rd_T26 x11 x13).f1)).bind fun t1951 => (if t1951 = true then (if x13 ≤ (x0.length : Int) then ((some (x0.take (x13 : Int).toNat : List (S26))).bind fun y1952 => (spec_bdGood.l1 k x0 x11 x12 x13 y1952 (y1952.length : Int) 0 ((rd_T26 x11 x13).f0) ((rd_T26 x11 x13).f1))) else (none)) else (some false))) else (none)) else (none)) else (some true)
def spec_bdGood.l1 : Nat → List (S26) → List (S26) → Int → Int → List (S26) → Int → Int → Int → Int → Option (Bool)
 | 0, _, _, _, _, _, _, _, _, _ => none
 | k + 1, x0, x11, x12, x13, x23, x24, x25, x1951000, x1951001 => if x25 < x24 then (if 0 ≤ x25 then (if x25 < (x23.length : Int) then (if (x1951000 == ((rd_T26 x23 x25).f0) && (x1951001 == ((rd_T26 x23 x25).f1))) = true then (some false) else (spec_bdGood.l1 k x0 x11 x12 x13 x23 x24 (wrap64 (x25 + 1)) x1951000 x1951001)) else (none)) else (none)) else (spec_bdGood.l0 k x0 x11 x12 (wrap64 (x13 + 1)))
end
def spec_bdGood.f (k : Nat) (l0 : List (S26)) : Option (Bool) := (spec_l1In.f (l0.length : Int) 1 30).bind fun t1948 => (if t1948 = true then (spec_bdGood.l0 k l0 l0 (l0.length : Int) 0) else (some false))
set_option maxHeartbeats 8000000 in
set_option maxRecDepth 100000 in
theorem spec_bdGood.calls (k : Nat) (A0 : Option Addr) (c0 : Nat) (l0 : List (S26)) (r : Bool) (w : World) (hr0 : Kd.C k26 w A0 l0.length l0) (hc0 : l0.length ≤ c0) (h : spec_bdGood.f k l0 = some r) :
  Calls Try.prog 209 #[.slice A0 l0.length c0] w fun e w' => e = .returned (.bool r) ∧ Below w.heap.size w w' := by
 have hu26 := Try.underlying26
 have HR0 := Aside0.mk hr0
 have HC0 := Aside0.mk hc0
 clear hr0 hc0
 have HB := Aside0.mk (Below.refl w.heap.size w)
 have H : ((spec_l1In.f (l0.length : Int) 1 30).bind fun t1948 => (if t1948 = true then (spec_bdGood.l0 k l0 l0 (l0.length : Int) 0) else (some false))) = some r := h
 clear h
 replace H := Option.bind_eq_some_iff.mp H
 obtain ⟨t1948, A20, H⟩ := H
 replace H : (if t1948 = true then (spec_bdGood.l0 k l0 l0 (l0.length : Int) 0) else (some false)) = some r := H
 have A2 := Aside0.mk A20
 clear A20
 by_cases c3 : t1948 = true
 ·subst c3
  have H1 : (spec_bdGood.l0 k l0 l0 (l0.length : Int) 0) = some r := by rw [if_pos rfl] at H; exact H
  clear H
  have H := H1
  clear H1
  have H' := Aside0.mk H
  clear H
  go_enter Try.func209, Try.ntmps209
  go_wp2_with (first | ((with_reducible refine gate_callee (f := 190) rfl ?_); refine goesL_ (some 9) rfl rfl Try.func190 (by kernel_rfl) rfl #[.int .i64 (l0.length : Int), .int .i64 1, .int .i64 30] rfl zn ?_; (with_reducible refine (spec_l1In.calls (l0.length : Int) 1 30 true _ A2.out).mono ?_); rintro e w' ⟨rfl, ⟨nd, rfl⟩⟩; refine ⟨_, rfl, ?_⟩))
  go_loopg [13] k (fun kq v13 w' => ∃ (x13_1 : Int), v13 = .int .i64 x13_1 ∧ Aside0 (spec_bdGood.l0 kq l0 l0 (l0.length : Int) x13_1 = some r) ∧ Aside0 (kq ≤ k) ∧ Aside0 (Below w.heap.size w w'))
  case atStart => exact ⟨(0), (by first | rfl | (simp; done) | (simp [*]; done)), H', ⟨Nat.le_refl _⟩, ⟨zb⟩⟩
  case round =>
   clear H'
   try clear c1
   try clear c2
   try clear p2
   try clear c3
   obtain ⟨x13_1, rfl, HA, HK1, HB⟩ := hrel
   cases gk with
   | zero => exact absurd HA.out (by simp [spec_bdGood.l0])
   | succ k1 =>
    have H := HA.out
    clear HA
    simp only [spec_bdGood.l0] at H
    by_cases c4 : x13_1 < (l0.length : Int)
    ·rw [if_pos c4] at H
     have c4b0 : decide (x13_1 < (l0.length : Int)) = true := decide_eq_true c4
     clear c4
     by_cases c5 : 0 ≤ x13_1
     ·rw [if_pos c5] at H
      have c5b0 : decide (0 ≤ x13_1) = true := decide_eq_true c5
      clear c5
      by_cases c6 : x13_1 < (l0.length : Int)
      ·rw [if_pos c6] at H
       have c6b0 : decide (x13_1 < (l0.length : Int)) = true := decide_eq_true c6
       clear c6
       replace H := Option.bind_eq_some_iff.mp H
       obtain ⟨t1951, A70, H⟩ := H
       replace H : (if t1951 = true then (if x13_1 ≤ (l0.length : Int) then ((some (l0.take (x13_1 : Int).toNat : List (S26))).bind fun y1952 => (spec_bdGood.l1 k1 l0 l0 (l0.length : Int) x13_1 y1952 (y1952.length : Int) 0 ((rd_T26 l0 x13_1).f0) ((rd_T26 l0 x13_1).f1))) else (none)) else (some false)) = some r := H
       have A7 := Aside0.mk A70
       clear A70
       by_cases c8 : t1951 = true
       ·subst c8
        have H1 : (if x13_1 ≤ (l0.length : Int) then ((some (l0.take (x13_1 : Int).toNat : List (S26))).bind fun y1952 => (spec_bdGood.l1 k1 l0 l0 (l0.length : Int) x13_1 y1952 (y1952.length : Int) 0 ((rd_T26 l0 x13_1).f0) ((rd_T26 l0 x13_1).f1))) else (none)) = some r := by rw [if_pos rfl] at H; exact H
        clear H
        have H := H1
        clear H1
        have c9b0 := eq_true (of_decide_eq_true (by first | (with_reducible assumption) | assumption) : 0 ≤ x13_1)
        by_cases c10 : x13_1 ≤ (l0.length : Int)
        ·rw [if_pos c10] at H
         have c10b0 := eq_true c10
         have c10b1 : decide (x13_1 ≤ (l0.length : Int)) = true := decide_eq_true c10
         clear c10
         obtain ⟨y1952, hy1952⟩ : ∃ y_ : List (S26), y_ = (l0.take (x13_1 : Int).toNat) := ⟨_, rfl⟩
         replace H : (spec_bdGood.l1 k1 l0 l0 (l0.length : Int) x13_1 y1952 (y1952.length : Int) 0 ((rd_T26 l0 x13_1).f0) ((rd_T26 l0 x13_1).f1)) = some r := by first | (rw [hy1952]; with_reducible exact H) | (have H2_ := (Option.bind_some _ _).symm.trans H; rw [hy1952]; with_reducible exact H2_) | (have H2_ := (Option.bind_some _ _).symm.trans H; with_reducible exact H2_) | with_reducible exact H | (rw [hy1952]; exact H) | exact H
         have Ny1952 := Aside0.mk hy1952
         clear hy1952
         have H' := Aside0.mk H
         clear H
         have p1949 : 0 ≤ (x13_1 : Int) := of_decide_eq_true (by first | (with_reducible assumption) | assumption)
         have q1949 : x13_1 < (l0.length : Int) := of_decide_eq_true (by first | (with_reducible assumption) | assumption)
         obtain ⟨ad1949, e1949, hx1949_0, hx1949_1⟩ := at_T26 HR0.out x13_1 p1949 q1949
         cases e1949
         replace hx1949_0 := zc HB hx1949_0
         replace hx1949_1 := zc HB hx1949_1
         replace p1949 := eq_true p1949
         replace q1949 := eq_true q1949
         go_wp2_with (first | ((with_reducible refine gate_dst (N := 4) rfl ?_); refine box_event ?hg (N := 4) ?hd (cs := #[.int .i64 0, .int .i64 0]) (t := 26) ?hr ?_; (case hd => rfl); (case hg => rfl); (case hr => first | (go_simp; done) | (go_simp; rfl)); intro gb1950 hg w11 hbox hb; have n0_ := Aside0.mk (below_step zb hb); have n1_ := Aside0.mk (hbox); have n2_ := Aside0.mk ((by rw [hg]; exact (below_size zb) : w.heap.size ≤ gb1950)); have n3_ := Aside0.mk ((by rw [hg]; exact (below_size zb) : w.heap.size ≤ gb1950)); clear HB; have HB := n0_; have BK1950 := n1_; have GW1950 := n2_; have GE1950 := n3_; clear n0_ n1_ n2_ n3_; clear hb hbox hg; have hcz12_0 : w11.cell? ⟨gb1950, 0, none⟩ = some (.int .i64 0) := (blk_cell BK1950.out 0).trans rfl; have hcz12_1 : w11.cell? ⟨gb1950, 1, none⟩ = some (.int .i64 0) := (blk_cell BK1950.out 1).trans rfl; have hfz12_0 := blk_frozen BK1950.out 0; have hfz12_1 := blk_frozen BK1950.out 1) | ((with_reducible refine gate_callee (f := 132) rfl ?_); refine goesL_ (some 19) rfl rfl Try.func132 (by kernel_rfl) rfl #[.agg #[.int .i64 ((rd_T26 l0 x13_1).f0), .int .i64 ((rd_T26 l0 x13_1).f1)]] rfl zn ?_; (with_reducible refine (spec_pgIs.calls ((rd_T26 l0 x13_1).f0) ((rd_T26 l0 x13_1).f1) true _ A7.out).mono ?_); rintro e w13 ⟨rfl, hb⟩; refine ⟨_, rfl, ?_⟩; have n0_ := Aside0.mk (blk_below (g := gb1950) (o := .cells #[.int .i64 ((rd_T26 l0 x13_1).f0), .int .i64 ((rd_T26 l0 x13_1).f1)] 26 (0, 0)) (by (with_reducible repeat (first | refine blk_drewN ?_ _ | refine blk_drew ?_ | refine blk_alloc ?_ _)); refine blk_put (cs := #[.int .i64 ((rd_T26 l0 x13_1).f0), .int .i64 0]) ?_ 1 _ rfl; (with_reducible repeat (first | refine blk_drewN ?_ _ | refine blk_drew ?_ | refine blk_alloc ?_ _)); refine blk_put (cs := #[.int .i64 0, .int .i64 0]) ?_ 0 _ rfl; (with_reducible repeat (first | refine blk_drewN ?_ _ | refine blk_drew ?_ | refine blk_alloc ?_ _)); exact BK1950.out) hb); have n1_ := Aside0.mk (below_step zb hb); clear BK1950; clear HB; have BK1950 := n0_; have HB := n1_; clear n0_ n1_; (try clear hb); (try clear hb2); (try clear hk); (try clear hi); have q14 : (x13_1 : Int) ≤ ((l0.length : Int) : Int) := of_decide_eq_true (by first | (with_reducible assumption) | assumption); obtain ⟨i014, hi014, _, hsz14, _⟩ := info_parts info26; have hroom14 : l0.length ≤ c0 := HC0.out; have hC14 : Kd.C k26 _ (some ad1949) l0.length l0 := HR0.out; have hcut14 := cut_to (P := Try.prog) 24 26 .i64 Try.underlying24 hi014 (some ad1949) l0.length c0 x13_1 (of_decide_eq_true (by first | (with_reducible assumption) | assumption)) q14 hroom14; have hr14 := Kd.C_take (m := (x13_1 : Int).toNat) hC14 (by omega); have hy14 : y1952.length = (x13_1 : Int).toNat := (by rw [Ny1952.out, List.length_take]; omega); rw [← Ny1952.out] at hr14; rw [← hy14] at hcut14; have HR1955 := Aside0.mk hr14; have HC1955 := Aside0.mk (show y1952.length ≤ c0 from by omega); clear hr14 hC14 hroom14 hi014 hsz14; have KY14 := Aside0.mk hy14; clear hy14; replace q14 := eq_true q14))
         go_loopg [25] k1 (fun kq v25 w' => ∃ (x25_2 : Int), v25 = .int .i64 x25_2 ∧ Aside0 (spec_bdGood.l1 kq l0 l0 (l0.length : Int) x13_1 y1952 (y1952.length : Int) x25_2 ((rd_T26 l0 x13_1).f0) ((rd_T26 l0 x13_1).f1) = some r) ∧ Aside0 (kq ≤ k1) ∧ Aside0 (w'.heap[gb1950]? = some (.cells #[.int .i64 ((rd_T26 l0 x13_1).f0), .int .i64 ((rd_T26 l0 x13_1).f1)] 26 (0, 0))) ∧ Aside0 (Below w.heap.size w w'))
         case atStart => exact ⟨(0), (by first | rfl | (simp; done) | (simp [*]; done)), H', ⟨Nat.le_refl _⟩, ⟨zk⟩, ⟨zb⟩⟩
         case round =>
          clear H'
          try clear c1
          try clear p1
          try clear q1
          try clear hx1
          try clear c2
          try clear p2
          try clear c3
          try clear c4
          try clear c4b0
          try clear c5
          try clear c5b0
          try clear c6
          try clear c6b0
          try clear c8
          try clear c9
          try clear c9b0
          try clear c10
          try clear c10b0
          try clear c10b1
          try clear c13
          try clear q14
          try clear hcz12_0
          try clear hcz12_1
          try clear hfz12_0
          try clear hfz12_1
          try clear hx1949_0
          try clear hx1949_1
          try clear p1949
          try clear p2
          try clear q14
          try clear q1949
          obtain ⟨x25_2, rfl, HA, HK2, BK1950, HB⟩ := hrel
          cases gk with
          | zero => exact absurd HA.out (by simp [spec_bdGood.l1])
          | succ k2 =>
           have H := HA.out
           clear HA
           simp only [spec_bdGood.l1] at H
           by_cases c15 : x25_2 < (y1952.length : Int)
           ·rw [if_pos c15] at H
            have c15b0 : decide (x25_2 < (y1952.length : Int)) = true := decide_eq_true c15
            clear c15
            by_cases c16 : 0 ≤ x25_2
            ·rw [if_pos c16] at H
             have c16b0 : decide (0 ≤ x25_2) = true := decide_eq_true c16
             clear c16
             by_cases c17 : x25_2 < (y1952.length : Int)
             ·rw [if_pos c17] at H
              have c17b0 : decide (x25_2 < (y1952.length : Int)) = true := decide_eq_true c17
              clear c17
              by_cases c18 : (((rd_T26 l0 x13_1).f0) == ((rd_T26 y1952 x25_2).f0) && (((rd_T26 l0 x13_1).f1) == ((rd_T26 y1952 x25_2).f1))) = true
              ·rw [if_pos c18] at H
               have c18b0 : (((rd_T26 l0 x13_1).f0) == ((rd_T26 y1952 x25_2).f0) && (((rd_T26 l0 x13_1).f1) == ((rd_T26 y1952 x25_2).f1))) = true := c18
               (try (have c18b1 : decide (((rd_T26 l0 x13_1).f0) = ((rd_T26 y1952 x25_2).f0) && (((rd_T26 l0 x13_1).f1) == ((rd_T26 y1952 x25_2).f1))) = true := by simpa using c18))
               (try (have c18b2 : (((rd_T26 l0 x13_1).f0) == ((rd_T26 y1952 x25_2).f0) && (((rd_T26 l0 x13_1).f1) == ((rd_T26 y1952 x25_2).f1))) = true := by simpa using c18))
               clear c18
               obtain rfl := Option.some.inj H
               have p1956 : 0 ≤ (x25_2 : Int) := of_decide_eq_true (by first | (with_reducible assumption) | assumption)
               have q1956 : x25_2 < (y1952.length : Int) := of_decide_eq_true (by first | (with_reducible assumption) | assumption)
               obtain ⟨ad1956, e1956, hx1956_0, hx1956_1⟩ := at_T26 HR1955.out x25_2 p1956 q1956
               obtain rfl : ad1949 = ad1956 := (by injection e1956)
               replace hx1956_0 := zc HB hx1956_0
               replace hx1956_1 := zc HB hx1956_1
               replace p1956 := eq_true p1956
               replace q1956 := eq_true q1956
               go_wp2_with (first | ((with_reducible refine gate_dst (N := 6) rfl ?_); refine box_event ?hg (N := 6) ?hd (cs := #[.int .i64 0, .int .i64 0]) (t := 26) ?hr ?_; (case hd => rfl); (case hg => rfl); (case hr => first | (go_simp; done) | (go_simp; rfl)); intro gb1957 hg w19 hbox hb; have n0_ := Aside0.mk (blk_below (g := gb1950) (o := .cells #[.int .i64 ((rd_T26 l0 x13_1).f0), .int .i64 ((rd_T26 l0 x13_1).f1)] 26 (0, 0)) zk hb); have n1_ := Aside0.mk (below_step zb hb); have n2_ := Aside0.mk (hbox); have n3_ := Aside0.mk ((by rw [hg]; exact (below_size zb) : w.heap.size ≤ gb1957)); have n4_ := Aside0.mk ((by rw [hg]; exact (below_size zb) : w.heap.size ≤ gb1957)); have n5_ := Aside0.mk ((by rw [hg]; exact Nat.ne_of_lt (blk_lt (g := gb1950) (o := .cells #[.int .i64 ((rd_T26 l0 x13_1).f0), .int .i64 ((rd_T26 l0 x13_1).f1)] 26 (0, 0)) zk) : gb1950 ≠ gb1957)); have n6_ := Aside0.mk ((by rw [hg]; exact Nat.ne_of_gt (blk_lt (g := gb1950) (o := .cells #[.int .i64 ((rd_T26 l0 x13_1).f0), .int .i64 ((rd_T26 l0 x13_1).f1)] 26 (0, 0)) zk) : gb1957 ≠ gb1950)); clear BK1950; clear HB; have BK1950 := n0_; have HB := n1_; have BK1957 := n2_; have GW1957 := n3_; have GE1957 := n4_; have NB1950_1957 := n5_; have NB1957_1950 := n6_; clear n0_ n1_ n2_ n3_ n4_ n5_ n6_; clear hb hbox hg; have hnb20 := NB1957_1950.out; have hnc20 := NB1950_1957.out; have hcz21_0 : w19.cell? ⟨gb1957, 0, none⟩ = some (.int .i64 0) := (blk_cell BK1957.out 0).trans rfl; have hcz21_1 : w19.cell? ⟨gb1957, 1, none⟩ = some (.int .i64 0) := (blk_cell BK1957.out 1).trans rfl; have hfz21_0 := blk_frozen BK1957.out 0; have hfz21_1 := blk_frozen BK1957.out 1; have hcz22_0 : w19.cell? ⟨gb1950, 0, none⟩ = some (.int .i64 ((rd_T26 l0 x13_1).f0)) := (blk_cell BK1950.out 0).trans rfl; have hcz22_1 : w19.cell? ⟨gb1950, 1, none⟩ = some (.int .i64 ((rd_T26 l0 x13_1).f1)) := (blk_cell BK1950.out 1).trans rfl; have hfz22_0 := blk_frozen BK1950.out 0; have hfz22_1 := blk_frozen BK1950.out 1))
               go_ret
               exact ⟨by first | rfl | (simp [errW_none, errW_some] <;> rfl) | (simp [*, errW_none, errW_some] <;> rfl), zb⟩
              ·rw [if_neg c18] at H
               have c18b0 : (((rd_T26 l0 x13_1).f0) == ((rd_T26 y1952 x25_2).f0) && (((rd_T26 l0 x13_1).f1) == ((rd_T26 y1952 x25_2).f1))) = false := by simpa using c18
               (try (have c18b1 : decide (((rd_T26 l0 x13_1).f0) = ((rd_T26 y1952 x25_2).f0) && (((rd_T26 l0 x13_1).f1) == ((rd_T26 y1952 x25_2).f1))) = false := by simpa using c18))
               (try (have c18b2 : (((rd_T26 l0 x13_1).f0) == ((rd_T26 y1952 x25_2).f0) && (((rd_T26 l0 x13_1).f1) == ((rd_T26 y1952 x25_2).f1))) = false := by simpa using c18))
               (try (have c18b3 : ¬ (((rd_T26 l0 x13_1).f0) = ((rd_T26 y1952 x25_2).f0) && (((rd_T26 l0 x13_1).f1) == ((rd_T26 y1952 x25_2).f1))) := by simpa using c18))
               clear c18
               have H' := Aside0.mk H
               clear H
               have p1956 : 0 ≤ (x25_2 : Int) := of_decide_eq_true (by first | (with_reducible assumption) | assumption)
               have q1956 : x25_2 < (y1952.length : Int) := of_decide_eq_true (by first | (with_reducible assumption) | assumption)
               obtain ⟨ad1956, e1956, hx1956_0, hx1956_1⟩ := at_T26 HR1955.out x25_2 p1956 q1956
               obtain rfl : ad1949 = ad1956 := (by injection e1956)
               replace hx1956_0 := zc HB hx1956_0
               replace hx1956_1 := zc HB hx1956_1
               replace p1956 := eq_true p1956
               replace q1956 := eq_true q1956
               go_wp2_with (first | ((with_reducible refine gate_dst (N := 6) rfl ?_); refine box_event ?hg (N := 6) ?hd (cs := #[.int .i64 0, .int .i64 0]) (t := 26) ?hr ?_; (case hd => rfl); (case hg => rfl); (case hr => first | (go_simp; done) | (go_simp; rfl)); intro gb1957 hg w23 hbox hb; have n0_ := Aside0.mk (blk_below (g := gb1950) (o := .cells #[.int .i64 ((rd_T26 l0 x13_1).f0), .int .i64 ((rd_T26 l0 x13_1).f1)] 26 (0, 0)) zk hb); have n1_ := Aside0.mk (below_step zb hb); have n2_ := Aside0.mk (hbox); have n3_ := Aside0.mk ((by rw [hg]; exact (below_size zb) : w.heap.size ≤ gb1957)); have n4_ := Aside0.mk ((by rw [hg]; exact (below_size zb) : w.heap.size ≤ gb1957)); have n5_ := Aside0.mk ((by rw [hg]; exact Nat.ne_of_lt (blk_lt (g := gb1950) (o := .cells #[.int .i64 ((rd_T26 l0 x13_1).f0), .int .i64 ((rd_T26 l0 x13_1).f1)] 26 (0, 0)) zk) : gb1950 ≠ gb1957)); have n6_ := Aside0.mk ((by rw [hg]; exact Nat.ne_of_gt (blk_lt (g := gb1950) (o := .cells #[.int .i64 ((rd_T26 l0 x13_1).f0), .int .i64 ((rd_T26 l0 x13_1).f1)] 26 (0, 0)) zk) : gb1957 ≠ gb1950)); clear BK1950; clear HB; have BK1950 := n0_; have HB := n1_; have BK1957 := n2_; have GW1957 := n3_; have GE1957 := n4_; have NB1950_1957 := n5_; have NB1957_1950 := n6_; clear n0_ n1_ n2_ n3_ n4_ n5_ n6_; clear hb hbox hg; have hnb24 := NB1957_1950.out; have hnc24 := NB1950_1957.out; have hcz25_0 : w23.cell? ⟨gb1957, 0, none⟩ = some (.int .i64 0) := (blk_cell BK1957.out 0).trans rfl; have hcz25_1 : w23.cell? ⟨gb1957, 1, none⟩ = some (.int .i64 0) := (blk_cell BK1957.out 1).trans rfl; have hfz25_0 := blk_frozen BK1957.out 0; have hfz25_1 := blk_frozen BK1957.out 1; have hcz26_0 : w23.cell? ⟨gb1950, 0, none⟩ = some (.int .i64 ((rd_T26 l0 x13_1).f0)) := (blk_cell BK1950.out 0).trans rfl; have hcz26_1 : w23.cell? ⟨gb1950, 1, none⟩ = some (.int .i64 ((rd_T26 l0 x13_1).f1)) := (blk_cell BK1950.out 1).trans rfl; have hfz26_0 := blk_frozen BK1950.out 0; have hfz26_1 := blk_frozen BK1950.out 1))
               go_roundg k2
               case measure => have := HK1.out; have := HK2.out; omega
               case rel => exact ⟨(wrap64 (x25_2 + 1)), (by first | rfl | (simp; done) | (simp [*]; done)), H', ⟨by have := HK1.out; have := HK2.out; omega⟩, ⟨by (with_reducible repeat (first | refine blk_drewN ?_ _ | refine blk_drew ?_ | refine blk_alloc ?_ _)); refine blk_far ?_ NB1950_1957.out _; (with_reducible repeat (first | refine blk_drewN ?_ _ | refine blk_drew ?_ | refine blk_alloc ?_ _)); refine blk_far ?_ NB1950_1957.out _; (with_reducible repeat (first | refine blk_drewN ?_ _ | refine blk_drew ?_ | refine blk_alloc ?_ _)); exact BK1950.out⟩, ⟨zb⟩⟩
             ·rw [if_neg c17] at H
              exact absurd H (by simp)
            ·rw [if_neg c16] at H
             exact absurd H (by simp)
           ·rw [if_neg c15] at H
            have c15b0 : decide (x25_2 < (y1952.length : Int)) = false := decide_eq_false c15
            clear c15
            have H' := Aside0.mk H
            clear H
            go_wp2
            go_roundg k2
            case measure => have := HK1.out; have := HK2.out; omega
            case rel => exact ⟨(wrap64 (x13_1 + 1)), (by first | rfl | (simp; done) | (simp [*]; done)), H', ⟨by have := HK1.out; have := HK2.out; omega⟩, ⟨zb⟩⟩
        ·rw [if_neg c10] at H
         exact absurd H (by simp)
       ·replace c8 := Bool.eq_false_iff.mpr c8
        subst c8
        have H1 : (some false) = some r := by rw [if_neg (show ¬ (false = true) by decide)] at H; exact H
        clear H
        have H := H1
        clear H1
        obtain rfl := Option.some.inj H
        have p1949 : 0 ≤ (x13_1 : Int) := of_decide_eq_true (by first | (with_reducible assumption) | assumption)
        have q1949 : x13_1 < (l0.length : Int) := of_decide_eq_true (by first | (with_reducible assumption) | assumption)
        obtain ⟨ad1949, e1949, hx1949_0, hx1949_1⟩ := at_T26 HR0.out x13_1 p1949 q1949
        cases e1949
        replace hx1949_0 := zc HB hx1949_0
        replace hx1949_1 := zc HB hx1949_1
        replace p1949 := eq_true p1949
        replace q1949 := eq_true q1949
        go_wp2_with (first | ((with_reducible refine gate_dst (N := 4) rfl ?_); refine box_event ?hg (N := 4) ?hd (cs := #[.int .i64 0, .int .i64 0]) (t := 26) ?hr ?_; (case hd => rfl); (case hg => rfl); (case hr => first | (go_simp; done) | (go_simp; rfl)); intro gb1950 hg w27 hbox hb; have n0_ := Aside0.mk (below_step zb hb); have n1_ := Aside0.mk (hbox); have n2_ := Aside0.mk ((by rw [hg]; exact (below_size zb) : w.heap.size ≤ gb1950)); have n3_ := Aside0.mk ((by rw [hg]; exact (below_size zb) : w.heap.size ≤ gb1950)); clear HB; have HB := n0_; have BK1950 := n1_; have GW1950 := n2_; have GE1950 := n3_; clear n0_ n1_ n2_ n3_; clear hb hbox hg; have hcz28_0 : w27.cell? ⟨gb1950, 0, none⟩ = some (.int .i64 0) := (blk_cell BK1950.out 0).trans rfl; have hcz28_1 : w27.cell? ⟨gb1950, 1, none⟩ = some (.int .i64 0) := (blk_cell BK1950.out 1).trans rfl; have hfz28_0 := blk_frozen BK1950.out 0; have hfz28_1 := blk_frozen BK1950.out 1) | ((with_reducible refine gate_callee (f := 132) rfl ?_); refine goesL_ (some 19) rfl rfl Try.func132 (by kernel_rfl) rfl #[.agg #[.int .i64 ((rd_T26 l0 x13_1).f0), .int .i64 ((rd_T26 l0 x13_1).f1)]] rfl zn ?_; (with_reducible refine (spec_pgIs.calls ((rd_T26 l0 x13_1).f0) ((rd_T26 l0 x13_1).f1) false _ A7.out).mono ?_); rintro e w29 ⟨rfl, hb⟩; refine ⟨_, rfl, ?_⟩; have n0_ := Aside0.mk (blk_below (g := gb1950) (o := .cells #[.int .i64 ((rd_T26 l0 x13_1).f0), .int .i64 ((rd_T26 l0 x13_1).f1)] 26 (0, 0)) (by (with_reducible repeat (first | refine blk_drewN ?_ _ | refine blk_drew ?_ | refine blk_alloc ?_ _)); refine blk_put (cs := #[.int .i64 ((rd_T26 l0 x13_1).f0), .int .i64 0]) ?_ 1 _ rfl; (with_reducible repeat (first | refine blk_drewN ?_ _ | refine blk_drew ?_ | refine blk_alloc ?_ _)); refine blk_put (cs := #[.int .i64 0, .int .i64 0]) ?_ 0 _ rfl; (with_reducible repeat (first | refine blk_drewN ?_ _ | refine blk_drew ?_ | refine blk_alloc ?_ _)); exact BK1950.out) hb); have n1_ := Aside0.mk (below_step zb hb); clear BK1950; clear HB; have BK1950 := n0_; have HB := n1_; clear n0_ n1_; (try clear hb); (try clear hb2); (try clear hk); (try clear hi)))
        go_ret
        exact ⟨by first | rfl | (simp [errW_none, errW_some] <;> rfl) | (simp [*, errW_none, errW_some] <;> rfl), zb⟩
      ·rw [if_neg c6] at H
       exact absurd H (by simp)
     ·rw [if_neg c5] at H
      exact absurd H (by simp)
    ·rw [if_neg c4] at H
     have c4b0 : decide (x13_1 < (l0.length : Int)) = false := decide_eq_false c4
     clear c4
     obtain rfl := Option.some.inj H
     go_wp2
     go_ret
     exact ⟨by first | rfl | (simp [errW_none, errW_some] <;> rfl) | (simp [*, errW_none, errW_some] <;> rfl), zb⟩
 ·replace c3 := Bool.eq_false_iff.mpr c3
  subst c3
  have H1 : (some false) = some r := by rw [if_neg (show ¬ (false = true) by decide)] at H; exact H
  clear H
  have H := H1
  clear H1
  obtain rfl := Option.some.inj H
  go_enter Try.func209, Try.ntmps209
  go_wp2_with (first | ((with_reducible refine gate_callee (f := 190) rfl ?_); refine goesL_ (some 9) rfl rfl Try.func190 (by kernel_rfl) rfl #[.int .i64 (l0.length : Int), .int .i64 1, .int .i64 30] rfl zn ?_; (with_reducible refine (spec_l1In.calls (l0.length : Int) 1 30 false _ A2.out).mono ?_); rintro e w' ⟨rfl, ⟨nd, rfl⟩⟩; refine ⟨_, rfl, ?_⟩))
  go_ret
  exact ⟨by first | rfl | (simp [errW_none, errW_some] <;> rfl) | (simp [*, errW_none, errW_some] <;> rfl), zb⟩
end Go.Proofs.Ytphpdfcblchpnaa.Q
namespace Go.Proofs.Ytphpdfcblchpnaa.Q
open Go.RowKit Go.Proofs.YtphpdfcblchpnaaW.PrintWords Go.Proofs.YtphpdfcblchpnaaW.PrintLast Go.Proofs.YtphpdfcblchpnaaW.PrintMore
attribute [local go_sem] max2_int min2_int max_two min_two max_three min_three max_four min_four   -- for this text's walks alone
set_option linter.unusedVariables false
set_option linter.unusedSimpArgs false
mutual
def spec_bdSorted.l0 : Nat → List (S26) → List (S26) → Int → Int → Option ((List (S26)))
 | 0, _, _, _, _ => none
 | k + 1, x3, x8, x9, x10 => if x10 < x9 then (if 0 ≤ x10 then (if x10 < (x8.length : Int) then (spec_bdSorted.l1 k x3 0 x8 x9 x10 ((rd_T26 x8 x10).f0) ((rd_T26 x8 x10).f1)) else (none)) else (none)) else (some x3)
def spec_bdSorted.l1 : Nat → List (S26) → Int → List (S26) → Int → Int → Int → Int → Option ((List (S26)))
 | 0, _, _, _, _, _, _, _ => none
 | k + 1, x3, x6, x8, x9, x10, x1960000, x1960001 => if x6 < (x3.length : Int) then (if 0 ≤ x6 then ((spec_pgLess.f ((rd_T26 x3 x6).f0) ((rd_T26 x3 x6).f1) x1960000 x1960001).bind fun t1961 => (if t1961 = true then (spec_bdSorted.l1 k x3 (wrap64 (x6 + 1)) x8 x9 x10 x1960000 x1960001) else ((some (([] : List (S26)) : List (S26))).bind fun y1962 => (if x6 ≤ (x3.length : Int) then ((some (x3.take (x6 : Int).toNat : List (S26))).bind fun y1965 => (if y1962.length + y1965.length < 8796093022208 then ((some (y1962 ++ y1965 : List (S26))).bind fun y1969 => ((some (([(⟨x1960000, x1960001⟩ : S26)] : List (S26)) : List (S26))).bind fun y1972 => (if y1969.length + y1972.length < 8796093022208 then ((some (y1969 ++ y1972 : List (S26))).bind fun y1975 => ((some (x3.drop (x6 : Int).toNat : List (S26))).bind fun y1978 => (if y1975.length + y1978.length < 8796093022208 then (spec_bdSorted.l0 k (y1975 ++ y1978) x8 x9 (wrap64 (x10 + 1))) else (none)))) else (none)))) else (none))) else (none))))) else (none)) else ((some (([] : List (S26)) : List (S26))).bind fun y1985 => (if 0 ≤ x6 then (if x6 ≤ (x3.length : Int) then ((some (x3.take (x6 : Int).toNat : List (S26))).bind fun y1988 => (if y1985.length + y1988.length < 8796093022208 then ((some (y1985 ++ y1988 : List (S26))).bind fun y1992 => ((some (([(⟨x1960000, x1960001⟩ : S26)] : List (S26)) : List (S26))).bind fun y1995 => (if y1992.length + y1995.length < 8796093022208 then ((some (y1992 ++ y1995 : List (S26))).bind fun y1998 => ((some (x3.drop (x6 : Int).toNat : List (S26))).bind fun y2001 => (if y1998.length + y2001.length < 8796093022208 then (spec_bdSorted.l0 k (y1998 ++ y2001) x8 x9 (wrap64 (x10 + 1))) else (none)))) else (none)))) else (none))) else (none)) else (none)))
end
def spec_bdSorted.f (k : Nat) (l0 : List (S26)) : Option ((List (S26))) := spec_bdSorted.l0 k ([] : List (S26)) l0 (l0.length : Int) 0
def spec_bdSorted.T6 : Bool × List (List Nat × List Nat) := (true, [([], []), ([], []), ([1], [1]), ([0, 2], [0, 2]), ([3], [3]), ([4], [4]), ([4], [4]), ([5, 6, 4], [4, 5, 6]), ([7, 4], [4, 7]), ([4], [4]), ([8, 9, 4, 4], [4, 8, 9]), ([4, 10], [4, 10])])
def spec_bdSorted.B6 : List Nat := [0, 0, 2, 7, 15, 31, 31, 127, 255, 31, 1023, 2047]
theorem spec_bdSorted.tab6 : rtab .any (opsOf Try.f210 6) = spec_bdSorted.T6 := by kernel_rfl
theorem spec_bdSorted.bits6 : waitsOk spec_bdSorted.T6.2 spec_bdSorted.B6 = true := by kernel_rfl
def spec_bdSorted.T8 : Bool × List (List Nat × List Nat) := (true, [([], []), ([], []), ([], []), ([1, 2], [1, 2]), ([0, 3], [0, 3]), ([], []), ([5], [5]), ([4, 6, 4], [4, 6]), ([7, 7, 0, 1, 2, 3, 4, 5, 6, 7], [7])])
def spec_bdSorted.B8 : List Nat := [0, 0, 0, 6, 15, 0, 32, 127, 255]
theorem spec_bdSorted.tab8 : rtab .any (opsOf Try.f210 8) = spec_bdSorted.T8 := by kernel_rfl
theorem spec_bdSorted.bits8 : waitsOk spec_bdSorted.T8.2 spec_bdSorted.B8 = true := by kernel_rfl
set_option maxHeartbeats 8000000 in
set_option maxRecDepth 100000 in
theorem spec_bdSorted.calls (k : Nat) (A0 : Option Addr) (c0 : Nat) (l0 : List (S26)) (r : List (S26)) (w : World) (hr0 : Kd.C k26 w A0 l0.length l0) (hc0 : l0.length ≤ c0) (h : spec_bdSorted.f k l0 = some r) :
  Calls Try.prog 210 #[.slice A0 l0.length c0] w fun e w' => ∃ v0_ : Value, e = .returned (v0_) ∧ Kd.R k26 26 w' w.heap.size (fun _ => True) v0_ r ∧ Below w.heap.size w w' := by
 have hu26 := Try.underlying26
 have HR0 := Aside0.mk hr0
 have HC0 := Aside0.mk hc0
 clear hr0 hc0
 have HB := Aside0.mk (Below.refl w.heap.size w)
 have H : (spec_bdSorted.l0 k ([] : List (S26)) l0 (l0.length : Int) 0) = some r := h
 clear h
 have H' := Aside0.mk H
 clear H
 go_enter Try.func210, Try.ntmps210
 go_wp2
 go_loopg [3, 10] k (fun kq v3 v10 w' => ∃ (x3_1 : List (S26)) (x10_1 : Int), v10 = .int .i64 x10_1 ∧ Aside0 (spec_bdSorted.l0 kq x3_1 l0 (l0.length : Int) x10_1 = some r) ∧ Aside0 (kq ≤ k) ∧ Aside0 (Kd.R k26 26 w' w.heap.size (fun _ => True) v3 x3_1) ∧ Aside0 (Below w.heap.size w w'))
 case atStart => exact ⟨(([] : List (S26))), (0), (by first | rfl | (simp; done) | (simp [*]; done)), H', ⟨Nat.le_refl _⟩, ⟨by first | exact Kd.R_nil _ _ _ _ _ | exact Kd.N_nil _ _ _ _ _ | exact Kd.V_nil _ _ _ _ _ | exact Kd.Q_nil _ _ _ _ _ | exact Kd.S_nil _ _ _ _ _⟩, ⟨zb⟩⟩
 case round =>
  clear H'
  obtain ⟨x3_1, x10_1, rfl, HA, HK1, HO_3, HB⟩ := hrel
  cases gk with
  | zero => exact absurd HA.out (by simp [spec_bdSorted.l0])
  | succ k1 =>
   have H := HA.out
   clear HA
   simp only [spec_bdSorted.l0] at H
   by_cases c2 : x10_1 < (l0.length : Int)
   ·rw [if_pos c2] at H
    have c2b0 : decide (x10_1 < (l0.length : Int)) = true := decide_eq_true c2
    clear c2
    by_cases c3 : 0 ≤ x10_1
    ·rw [if_pos c3] at H
     have c3b0 : decide (0 ≤ x10_1) = true := decide_eq_true c3
     clear c3
     by_cases c4 : x10_1 < (l0.length : Int)
     ·rw [if_pos c4] at H
      have c4b0 : decide (x10_1 < (l0.length : Int)) = true := decide_eq_true c4
      clear c4
      have H' := Aside0.mk H
      clear H
      have p1958 : 0 ≤ (x10_1 : Int) := of_decide_eq_true (by first | (with_reducible assumption) | assumption)
      have q1958 : x10_1 < (l0.length : Int) := of_decide_eq_true (by first | (with_reducible assumption) | assumption)
      obtain ⟨ad1958, e1958, hx1958_0, hx1958_1⟩ := at_T26 HR0.out x10_1 p1958 q1958
      cases e1958
      replace hx1958_0 := zc HB hx1958_0
      replace hx1958_1 := zc HB hx1958_1
      replace p1958 := eq_true p1958
      replace q1958 := eq_true q1958
      go_wp2_with (first | ((with_reducible refine gate_dst (N := 5) rfl ?_); refine box_event ?hg (N := 5) ?hd (cs := #[.int .i64 0, .int .i64 0]) (t := 26) ?hr ?_; (case hd => rfl); (case hg => rfl); (case hr => first | (go_simp; done) | (go_simp; rfl)); intro gb1959 hg w5 hbox hb; have n0_ := Aside0.mk (Kd.R_below (Kd.R_elderB (by (with_reducible repeat (first | apply Kd.R_alloc | apply Kd.R_drewN | apply Kd.R_drew)); exact HO_3.out) gb1959 (Nat.le_of_eq hg.symm)) hb); have n1_ := Aside0.mk (below_step zb hb); have n2_ := Aside0.mk (hbox); have n3_ := Aside0.mk ((by rw [hg]; exact (below_size zb) : w.heap.size ≤ gb1959)); have n4_ := Aside0.mk ((by rw [hg]; exact (below_size zb) : w.heap.size ≤ gb1959)); clear HO_3; clear HB; have HO_3 := n0_; have HB := n1_; have BK1959 := n2_; have GW1959 := n3_; have GE1959 := n4_; clear n0_ n1_ n2_ n3_ n4_; clear hb hbox hg; have hcz6_0 : w5.cell? ⟨gb1959, 0, none⟩ = some (.int .i64 0) := (blk_cell BK1959.out 0).trans rfl; have hcz6_1 : w5.cell? ⟨gb1959, 1, none⟩ = some (.int .i64 0) := (blk_cell BK1959.out 1).trans rfl; have hfz6_0 := blk_frozen BK1959.out 0; have hfz6_1 := blk_frozen BK1959.out 1))
      go_loopg [6] k1 (fun kq v6 w' => ∃ (x6_2 : Int), v6 = .int .i64 x6_2 ∧ Aside0 (spec_bdSorted.l1 kq x3_1 x6_2 l0 (l0.length : Int) x10_1 ((rd_T26 l0 x10_1).f0) ((rd_T26 l0 x10_1).f1) = some r) ∧ Aside0 (kq ≤ k1) ∧ Aside0 (Kd.R k26 26 w' w.heap.size (fun k_ => k_ ≠ gb1959) u3 x3_1) ∧ Aside0 (w'.heap[gb1959]? = some (.cells #[.int .i64 ((rd_T26 l0 x10_1).f0), .int .i64 ((rd_T26 l0 x10_1).f1)] 26 (0, 0))) ∧ Aside0 (Below w.heap.size w w'))
      case atStart => exact ⟨(0), (by first | rfl | (simp; done) | (simp [*]; done)), H', ⟨Nat.le_refl _⟩, ⟨by (with_reducible repeat (first | apply Kd.R_alloc | apply Kd.R_drewN | apply Kd.R_drew)); exact Kd.R_mono (Kd.R_far (p := ⟨gb1959, 1, none⟩) (Kd.R_far (p := ⟨gb1959, 0, none⟩) (Kd.R_mono HO_3.out (fun k_ hk => (⟨hk, hk.2⟩ : _ ∧ k_ ≠ gb1959))) (fun _ hk => hk.2) (.int .i64 ((rd_T26 l0 x10_1).f0))) (fun _ hk => hk.2) (.int .i64 ((rd_T26 l0 x10_1).f1))) (fun _ hk => hk.1.2)⟩, ⟨by (with_reducible repeat (first | refine blk_drewN ?_ _ | refine blk_drew ?_ | refine blk_alloc ?_ _)); refine blk_put (cs := #[.int .i64 ((rd_T26 l0 x10_1).f0), .int .i64 0]) ?_ 1 _ rfl; (with_reducible repeat (first | refine blk_drewN ?_ _ | refine blk_drew ?_ | refine blk_alloc ?_ _)); refine blk_put (cs := #[.int .i64 0, .int .i64 0]) ?_ 0 _ rfl; (with_reducible repeat (first | refine blk_drewN ?_ _ | refine blk_drew ?_ | refine blk_alloc ?_ _)); exact BK1959.out⟩, ⟨zb⟩⟩
      case round =>
       clear H'
       try clear p1
       try clear q1
       try clear hx1
       try clear c2
       try clear c2b0
       try clear p2
       try clear c3
       try clear c3b0
       try clear c4
       try clear c4b0
       try clear hcz6_0
       try clear hcz6_1
       try clear hfz6_0
       try clear hfz6_1
       try clear hx1958_0
       try clear hx1958_1
       try clear p1958
       try clear q1958
       obtain ⟨x6_2, rfl, HA, HK2, HO_3, BK1959, HB⟩ := hrel
       cases gk with
       | zero => exact absurd HA.out (by simp [spec_bdSorted.l1])
       | succ k2 =>
        have H := HA.out
        clear HA
        simp only [spec_bdSorted.l1] at H
        by_cases c7 : x6_2 < (x3_1.length : Int)
        ·rw [if_pos c7] at H
         have c7b0 : decide (x6_2 < (x3_1.length : Int)) = true := decide_eq_true c7
         clear c7
         by_cases c8 : 0 ≤ x6_2
         ·rw [if_pos c8] at H
          have c8b0 : decide (0 ≤ x6_2) = true := decide_eq_true c8
          clear c8
          replace H := Option.bind_eq_some_iff.mp H
          obtain ⟨t1961, A90, H⟩ := H
          replace H : (if t1961 = true then (spec_bdSorted.l1 k2 x3_1 (wrap64 (x6_2 + 1)) l0 (l0.length : Int) x10_1 ((rd_T26 l0 x10_1).f0) ((rd_T26 l0 x10_1).f1)) else ((some (([] : List (S26)) : List (S26))).bind fun y1962 => (if x6_2 ≤ (x3_1.length : Int) then ((some (x3_1.take (x6_2 : Int).toNat : List (S26))).bind fun y1965 => (if y1962.length + y1965.length < 8796093022208 then ((some (y1962 ++ y1965 : List (S26))).bind fun y1969 => ((some (([(⟨((rd_T26 l0 x10_1).f0), ((rd_T26 l0 x10_1).f1)⟩ : S26)] : List (S26)) : List (S26))).bind fun y1972 => (if y1969.length + y1972.length < 8796093022208 then ((some (y1969 ++ y1972 : List (S26))).bind fun y1975 => ((some (x3_1.drop (x6_2 : Int).toNat : List (S26))).bind fun y1978 => (if y1975.length + y1978.length < 8796093022208 then (spec_bdSorted.l0 k2 (y1975 ++ y1978) l0 (l0.length : Int) (wrap64 (x10_1 + 1))) else (none)))) else (none)))) else (none))) else (none)))) = some r := H
          have A9 := Aside0.mk A90
          clear A90
          by_cases c10 : t1961 = true
          ·subst c10
           have H1 : (spec_bdSorted.l1 k2 x3_1 (wrap64 (x6_2 + 1)) l0 (l0.length : Int) x10_1 ((rd_T26 l0 x10_1).f0) ((rd_T26 l0 x10_1).f1)) = some r := by rw [if_pos rfl] at H; exact H
           clear H
           have H := H1
           clear H1
           have H' := Aside0.mk H
           clear H
           try go_wp2
           have n0_ := Aside0.mk (Kd.R_drew HO_3.out)
           have n1_ := Aside0.mk (blk_drew BK1959.out)
           have n2_ := Aside0.mk (below_drew1 HB.out)
           clear HO_3
           clear BK1959
           clear HB
           have HO_3 := n0_
           have BK1959 := n1_
           have HB := n2_
           clear n0_ n1_ n2_
           obtain ⟨Ao12, co12, eo12⟩ := Kd.R_slice HO_3.out
           (first | subst eo12 | (injection eo12 with f1_ f2_ f3_; have f4_ := f1_.symm; have f5_ := f3_.symm; clear f1_ f2_ f3_; subst f4_; subst f5_))
           have p1960 : 0 ≤ (x6_2 : Int) := of_decide_eq_true (by first | (with_reducible assumption) | assumption)
           have q1960 : x6_2 < (x3_1.length : Int) := of_decide_eq_true (by first | (with_reducible assumption) | assumption)
           obtain ⟨ad1960, e1960, hx1960_0, hx1960_1⟩ := at_T26 (Kd.R_reads' HO_3.out).2.2 x6_2 p1960 q1960
           cases e1960
           replace p1960 := eq_true p1960
           replace q1960 := eq_true q1960
           refine start_ (n := 12) (S := fun w' => w'.cell? ⟨gb1959, 0, none⟩ = some (.int .i64 ((rd_T26 l0 x10_1).f0)) ∧ w'.cell? ⟨gb1959, 1, none⟩ = some (.int .i64 ((rd_T26 l0 x10_1).f1)) ∧ w'.cell? (ad1960.add ((x6_2).toNat * 2)) = some (.int .i64 ((rd_T26 x3_1 x6_2).f0)) ∧ w'.cell? ⟨(ad1960.add ((x6_2).toNat * 2)).block, (ad1960.add ((x6_2).toNat * 2)).off + 1, none⟩ = some (.int .i64 ((rd_T26 x3_1 x6_2).f1))) (ds := []) (zl 12 0) (by kernel_rfl) rfl rfl ⟨(blk_cell BK1959.out 0).trans rfl, (blk_cell BK1959.out 1).trans rfl, hx1960_0, hx1960_1⟩ (fun hHeld => ?_); refine with_tabW spec_bdSorted.tab6 spec_bdSorted.bits6 (fun HT_ HW_ => ?_)
           generalize wr.drew = w11 at HO_3 BK1959 HB hx1960_0 hx1960_1 hHeld ⊢
           refine zp 0 14 12 1 HT_ ?_
           refine zp 1 15 12 3 HT_ ?_
           refine zp 2 16 12 7 HT_ ?_
           refine zp 3 17 12 15 HT_ ?_
           refine zp 4 18 12 31 HT_ ?_
           refine zp 5 19 12 63 HT_ ?_
           refine zp 6 20 12 127 HT_ ?_
           refine zp 7 21 12 255 HT_ ?_
           refine take_ (i := 8) (N := some 22) (v := ?_) (a' := ?_) (zl 12 511) rfl rfl (take_ofW HT_.out HW_.out (by kernel_rfl)) (fun _ _ _ h => h) (Or.inl ⟨by rfl, ?_⟩) hHeld ?_ ?_
           rotate_left
           ·rintro w' ⟨s0, s1, s2, s3⟩
            go_simp
            with_reducible rfl
           rotate_left
           ·exact zs
           refine take_ (i := 9) (N := some 23) (v := ?_) (a' := ?_) (zl 12 1023) rfl rfl (take_ofW HT_.out HW_.out (by kernel_rfl)) (fun _ _ _ h => h) (Or.inl ⟨by rfl, ?_⟩) hHeld ?_ ?_
           rotate_left
           ·rintro w' ⟨s0, s1, s2, s3⟩
            go_simp
            with_reducible rfl
           rotate_left
           ·exact zs
           refine one_ (i := 10) (N := some 24) (zl 12 2047) rfl rfl (one_of HT_.out (by kernel_rfl)) (by decide) (fun K hK => ?_)
           refine goes_ Try.func237 (by kernel_rfl) rfl #[.agg #[.int .i64 ((rd_T26 x3_1 x6_2).f0), .int .i64 ((rd_T26 x3_1 x6_2).f1)], .agg #[.int .i64 ((rd_T26 l0 x10_1).f0), .int .i64 ((rd_T26 l0 x10_1).f1)]] (by rfl) rfl rfl zn ?_
           with_reducible refine (spec_pgLess.calls ((rd_T26 x3_1 x6_2).f0) ((rd_T26 x3_1 x6_2).f1) ((rd_T26 l0 x10_1).f0) ((rd_T26 l0 x10_1).f1) true _ A9.out).mono ?_
           rintro e w13 ⟨rfl, hb⟩
           have HS2_ := (hb.cell (World.block_lt_of_cell? _ _ (hHeld.2.2.1))).trans (hHeld.2.2.1)
           have HS3_ := (hb.cell (World.block_lt_of_cell? _ _ (hHeld.2.2.2))).trans (hHeld.2.2.2)
           refine ⟨_, rfl, ?_⟩
           have n0_ := Aside0.mk (Kd.R_below (by (with_reducible repeat (first | apply Kd.R_alloc | apply Kd.R_drewN | apply Kd.R_drew)); exact HO_3.out) hb)
           have n1_ := Aside0.mk (blk_below (g := gb1959) (o := .cells #[.int .i64 ((rd_T26 l0 x10_1).f0), .int .i64 ((rd_T26 l0 x10_1).f1)] 26 (0, 0)) zk hb)
           have n2_ := Aside0.mk (below_step zb hb)
           clear HO_3
           clear BK1959
           clear HB
           have HO_3 := n0_
           have BK1959 := n1_
           have HB := n2_
           clear n0_ n1_ n2_
           (try clear hb)
           (try clear hb2)
           (try clear hk)
           (try clear hi)
           refine hK.out _ _ ⟨(blk_cell BK1959.out 0).trans rfl, (blk_cell BK1959.out 1).trans rfl, HS2_, HS3_⟩ (fun hHeld => ?_)
           clear hK K
           refine norm_ (a' := ?_) ?_ ?_
           rotate_left
           ·show Act.put _ (some 24) _ = _
            exact zs
           refine zp 11 25 12 4095 HT_ ?_
           refine done_ (done_of HT_.out (by kernel_rfl)) ?_
           try go_wp2
           go_roundg k2
           case measure => have := HK1.out; have := HK2.out; omega
           case rel => exact ⟨(wrap64 (x6_2 + 1)), (by first | rfl | (simp; done) | (simp [*]; done)), H', ⟨by have := HK1.out; have := HK2.out; omega⟩, ⟨by (with_reducible repeat (first | apply Kd.R_alloc | apply Kd.R_drewN | apply Kd.R_drew)); exact HO_3.out⟩, ⟨zk⟩, ⟨zb⟩⟩
          ·replace c10 := Bool.eq_false_iff.mpr c10
           subst c10
           have H1 : ((some (([] : List (S26)) : List (S26))).bind fun y1962 => (if x6_2 ≤ (x3_1.length : Int) then ((some (x3_1.take (x6_2 : Int).toNat : List (S26))).bind fun y1965 => (if y1962.length + y1965.length < 8796093022208 then ((some (y1962 ++ y1965 : List (S26))).bind fun y1969 => ((some (([(⟨((rd_T26 l0 x10_1).f0), ((rd_T26 l0 x10_1).f1)⟩ : S26)] : List (S26)) : List (S26))).bind fun y1972 => (if y1969.length + y1972.length < 8796093022208 then ((some (y1969 ++ y1972 : List (S26))).bind fun y1975 => ((some (x3_1.drop (x6_2 : Int).toNat : List (S26))).bind fun y1978 => (if y1975.length + y1978.length < 8796093022208 then (spec_bdSorted.l0 k2 (y1975 ++ y1978) l0 (l0.length : Int) (wrap64 (x10_1 + 1))) else (none)))) else (none)))) else (none))) else (none))) = some r := by rw [if_neg (show ¬ (false = true) by decide)] at H; exact H
           clear H
           have H := H1
           clear H1
           obtain ⟨y1962, hy1962⟩ : ∃ y_ : List (S26), y_ = (([] : List (S26))) := ⟨_, rfl⟩
           replace H : (if x6_2 ≤ (x3_1.length : Int) then ((some (x3_1.take (x6_2 : Int).toNat : List (S26))).bind fun y1965 => (if y1962.length + y1965.length < 8796093022208 then ((some (y1962 ++ y1965 : List (S26))).bind fun y1969 => ((some (([(⟨((rd_T26 l0 x10_1).f0), ((rd_T26 l0 x10_1).f1)⟩ : S26)] : List (S26)) : List (S26))).bind fun y1972 => (if y1969.length + y1972.length < 8796093022208 then ((some (y1969 ++ y1972 : List (S26))).bind fun y1975 => ((some (x3_1.drop (x6_2 : Int).toNat : List (S26))).bind fun y1978 => (if y1975.length + y1978.length < 8796093022208 then (spec_bdSorted.l0 k2 (y1975 ++ y1978) l0 (l0.length : Int) (wrap64 (x10_1 + 1))) else (none)))) else (none)))) else (none))) else (none)) = some r := by first | (rw [hy1962]; with_reducible exact H) | (have H2_ := (Option.bind_some _ _).symm.trans H; rw [hy1962]; with_reducible exact H2_) | (have H2_ := (Option.bind_some _ _).symm.trans H; with_reducible exact H2_) | with_reducible exact H | (rw [hy1962]; exact H) | exact H
           have Ny1962 := Aside0.mk hy1962
           clear hy1962
           have c14b0 := eq_true (of_decide_eq_true (by first | (with_reducible assumption) | assumption) : 0 ≤ x6_2)
           by_cases c15 : x6_2 ≤ (x3_1.length : Int)
           ·rw [if_pos c15] at H
            have c15b0 := eq_true c15
            have c15b1 : decide (x6_2 ≤ (x3_1.length : Int)) = true := decide_eq_true c15
            clear c15
            obtain ⟨y1965, hy1965⟩ : ∃ y_ : List (S26), y_ = (x3_1.take (x6_2 : Int).toNat) := ⟨_, rfl⟩
            replace H : (if y1962.length + y1965.length < 8796093022208 then ((some (y1962 ++ y1965 : List (S26))).bind fun y1969 => ((some (([(⟨((rd_T26 l0 x10_1).f0), ((rd_T26 l0 x10_1).f1)⟩ : S26)] : List (S26)) : List (S26))).bind fun y1972 => (if y1969.length + y1972.length < 8796093022208 then ((some (y1969 ++ y1972 : List (S26))).bind fun y1975 => ((some (x3_1.drop (x6_2 : Int).toNat : List (S26))).bind fun y1978 => (if y1975.length + y1978.length < 8796093022208 then (spec_bdSorted.l0 k2 (y1975 ++ y1978) l0 (l0.length : Int) (wrap64 (x10_1 + 1))) else (none)))) else (none)))) else (none)) = some r := by first | (rw [hy1965]; with_reducible exact H) | (have H2_ := (Option.bind_some _ _).symm.trans H; rw [hy1965]; with_reducible exact H2_) | (have H2_ := (Option.bind_some _ _).symm.trans H; with_reducible exact H2_) | with_reducible exact H | (rw [hy1965]; exact H) | exact H
            have Ny1965 := Aside0.mk hy1965
            clear hy1965
            by_cases c16 : y1962.length + y1965.length < 8796093022208
            ·rw [if_pos c16] at H
             have LMc16 := Aside0.mk c16
             clear c16
             obtain ⟨y1969, hy1969⟩ : ∃ y_ : List (S26), y_ = (y1962 ++ y1965) := ⟨_, rfl⟩
             replace H : ((some (([(⟨((rd_T26 l0 x10_1).f0), ((rd_T26 l0 x10_1).f1)⟩ : S26)] : List (S26)) : List (S26))).bind fun y1972 => (if y1969.length + y1972.length < 8796093022208 then ((some (y1969 ++ y1972 : List (S26))).bind fun y1975 => ((some (x3_1.drop (x6_2 : Int).toNat : List (S26))).bind fun y1978 => (if y1975.length + y1978.length < 8796093022208 then (spec_bdSorted.l0 k2 (y1975 ++ y1978) l0 (l0.length : Int) (wrap64 (x10_1 + 1))) else (none)))) else (none))) = some r := by first | (rw [hy1969]; with_reducible exact H) | (have H2_ := (Option.bind_some _ _).symm.trans H; rw [hy1969]; with_reducible exact H2_) | (have H2_ := (Option.bind_some _ _).symm.trans H; with_reducible exact H2_) | with_reducible exact H | (rw [hy1969]; exact H) | exact H
             have Ny1969 := Aside0.mk hy1969
             clear hy1969
             obtain ⟨y1972, hy1972⟩ : ∃ y_ : List (S26), y_ = (([(⟨((rd_T26 l0 x10_1).f0), ((rd_T26 l0 x10_1).f1)⟩ : S26)] : List (S26))) := ⟨_, rfl⟩
             replace H : (if y1969.length + y1972.length < 8796093022208 then ((some (y1969 ++ y1972 : List (S26))).bind fun y1975 => ((some (x3_1.drop (x6_2 : Int).toNat : List (S26))).bind fun y1978 => (if y1975.length + y1978.length < 8796093022208 then (spec_bdSorted.l0 k2 (y1975 ++ y1978) l0 (l0.length : Int) (wrap64 (x10_1 + 1))) else (none)))) else (none)) = some r := by first | (rw [hy1972]; with_reducible exact H) | (have H2_ := (Option.bind_some _ _).symm.trans H; rw [hy1972]; with_reducible exact H2_) | (have H2_ := (Option.bind_some _ _).symm.trans H; with_reducible exact H2_) | with_reducible exact H | (rw [hy1972]; exact H) | exact H
             have Ny1972 := Aside0.mk hy1972
             clear hy1972
             by_cases c17 : y1969.length + y1972.length < 8796093022208
             ·rw [if_pos c17] at H
              have LMc17 := Aside0.mk c17
              clear c17
              obtain ⟨y1975, hy1975⟩ : ∃ y_ : List (S26), y_ = (y1969 ++ y1972) := ⟨_, rfl⟩
              replace H : ((some (x3_1.drop (x6_2 : Int).toNat : List (S26))).bind fun y1978 => (if y1975.length + y1978.length < 8796093022208 then (spec_bdSorted.l0 k2 (y1975 ++ y1978) l0 (l0.length : Int) (wrap64 (x10_1 + 1))) else (none))) = some r := by first | (rw [hy1975]; with_reducible exact H) | (have H2_ := (Option.bind_some _ _).symm.trans H; rw [hy1975]; with_reducible exact H2_) | (have H2_ := (Option.bind_some _ _).symm.trans H; with_reducible exact H2_) | with_reducible exact H | (rw [hy1975]; exact H) | exact H
              have Ny1975 := Aside0.mk hy1975
              clear hy1975
              have c18b0 := eq_true (of_decide_eq_true (by first | (with_reducible assumption) | assumption) : 0 ≤ x6_2)
              have c19b0 := eq_true (of_decide_eq_true (by first | (with_reducible assumption) | assumption) : x6_2 ≤ (x3_1.length : Int))
              obtain ⟨y1978, hy1978⟩ : ∃ y_ : List (S26), y_ = (x3_1.drop (x6_2 : Int).toNat) := ⟨_, rfl⟩
              replace H : (if y1975.length + y1978.length < 8796093022208 then (spec_bdSorted.l0 k2 (y1975 ++ y1978) l0 (l0.length : Int) (wrap64 (x10_1 + 1))) else (none)) = some r := by first | (rw [hy1978]; with_reducible exact H) | (have H2_ := (Option.bind_some _ _).symm.trans H; rw [hy1978]; with_reducible exact H2_) | (have H2_ := (Option.bind_some _ _).symm.trans H; with_reducible exact H2_) | with_reducible exact H | (rw [hy1978]; exact H) | exact H
              have Ny1978 := Aside0.mk hy1978
              clear hy1978
              by_cases c20 : y1975.length + y1978.length < 8796093022208
              ·rw [if_pos c20] at H
               have LMc20 := Aside0.mk c20
               clear c20
               obtain ⟨y1982, hy1982⟩ : ∃ y_ : List (S26), y_ = (y1975 ++ y1978) := ⟨_, rfl⟩
               replace H : (spec_bdSorted.l0 k2 y1982 l0 (l0.length : Int) (wrap64 (x10_1 + 1))) = some r := by first | (rw [hy1982]; with_reducible exact H) | (have H2_ := (Option.bind_some _ _).symm.trans H; rw [hy1982]; with_reducible exact H2_) | (have H2_ := (Option.bind_some _ _).symm.trans H; with_reducible exact H2_) | with_reducible exact H | (rw [hy1982]; exact H) | exact H
               have Ny1982 := Aside0.mk hy1982
               clear hy1982
               have H' := Aside0.mk H
               clear H
               try go_wp2
               have n0_ := Aside0.mk (Kd.R_drew HO_3.out)
               have n1_ := Aside0.mk (blk_drew BK1959.out)
               have n2_ := Aside0.mk (below_drew1 HB.out)
               clear HO_3
               clear BK1959
               clear HB
               have HO_3 := n0_
               have BK1959 := n1_
               have HB := n2_
               clear n0_ n1_ n2_
               obtain ⟨Ao22, co22, eo22⟩ := Kd.R_slice HO_3.out
               (first | subst eo22 | (injection eo22 with f1_ f2_ f3_; have f4_ := f1_.symm; have f5_ := f3_.symm; clear f1_ f2_ f3_; subst f4_; subst f5_))
               have p1960 : 0 ≤ (x6_2 : Int) := of_decide_eq_true (by first | (with_reducible assumption) | assumption)
               have q1960 : x6_2 < (x3_1.length : Int) := of_decide_eq_true (by first | (with_reducible assumption) | assumption)
               obtain ⟨ad1960, e1960, hx1960_0, hx1960_1⟩ := at_T26 (Kd.R_reads' HO_3.out).2.2 x6_2 p1960 q1960
               cases e1960
               replace p1960 := eq_true p1960
               replace q1960 := eq_true q1960
               refine start_ (n := 12) (S := fun w' => w'.cell? ⟨gb1959, 0, none⟩ = some (.int .i64 ((rd_T26 l0 x10_1).f0)) ∧ w'.cell? ⟨gb1959, 1, none⟩ = some (.int .i64 ((rd_T26 l0 x10_1).f1)) ∧ w'.cell? (ad1960.add ((x6_2).toNat * 2)) = some (.int .i64 ((rd_T26 x3_1 x6_2).f0)) ∧ w'.cell? ⟨(ad1960.add ((x6_2).toNat * 2)).block, (ad1960.add ((x6_2).toNat * 2)).off + 1, none⟩ = some (.int .i64 ((rd_T26 x3_1 x6_2).f1))) (ds := []) (zl 12 0) (by kernel_rfl) rfl rfl ⟨(blk_cell BK1959.out 0).trans rfl, (blk_cell BK1959.out 1).trans rfl, hx1960_0, hx1960_1⟩ (fun hHeld => ?_); refine with_tabW spec_bdSorted.tab6 spec_bdSorted.bits6 (fun HT_ HW_ => ?_)
               generalize wr.drew = w21 at HO_3 BK1959 HB hx1960_0 hx1960_1 hHeld ⊢
               refine zp 0 14 12 1 HT_ ?_
               refine zp 1 15 12 3 HT_ ?_
               refine zp 2 16 12 7 HT_ ?_
               refine zp 3 17 12 15 HT_ ?_
               refine zp 4 18 12 31 HT_ ?_
               refine zp 5 19 12 63 HT_ ?_
               refine zp 6 20 12 127 HT_ ?_
               refine zp 7 21 12 255 HT_ ?_
               refine take_ (i := 8) (N := some 22) (v := ?_) (a' := ?_) (zl 12 511) rfl rfl (take_ofW HT_.out HW_.out (by kernel_rfl)) (fun _ _ _ h => h) (Or.inl ⟨by rfl, ?_⟩) hHeld ?_ ?_
               rotate_left
               ·rintro w' ⟨s0, s1, s2, s3⟩
                go_simp
                with_reducible rfl
               rotate_left
               ·exact zs
               refine take_ (i := 9) (N := some 23) (v := ?_) (a' := ?_) (zl 12 1023) rfl rfl (take_ofW HT_.out HW_.out (by kernel_rfl)) (fun _ _ _ h => h) (Or.inl ⟨by rfl, ?_⟩) hHeld ?_ ?_
               rotate_left
               ·rintro w' ⟨s0, s1, s2, s3⟩
                go_simp
                with_reducible rfl
               rotate_left
               ·exact zs
               refine one_ (i := 10) (N := some 24) (zl 12 2047) rfl rfl (one_of HT_.out (by kernel_rfl)) (by decide) (fun K hK => ?_)
               refine goes_ Try.func237 (by kernel_rfl) rfl #[.agg #[.int .i64 ((rd_T26 x3_1 x6_2).f0), .int .i64 ((rd_T26 x3_1 x6_2).f1)], .agg #[.int .i64 ((rd_T26 l0 x10_1).f0), .int .i64 ((rd_T26 l0 x10_1).f1)]] (by rfl) rfl rfl zn ?_
               with_reducible refine (spec_pgLess.calls ((rd_T26 x3_1 x6_2).f0) ((rd_T26 x3_1 x6_2).f1) ((rd_T26 l0 x10_1).f0) ((rd_T26 l0 x10_1).f1) false _ A9.out).mono ?_
               rintro e w23 ⟨rfl, hb⟩
               have HS2_ := (hb.cell (World.block_lt_of_cell? _ _ (hHeld.2.2.1))).trans (hHeld.2.2.1)
               have HS3_ := (hb.cell (World.block_lt_of_cell? _ _ (hHeld.2.2.2))).trans (hHeld.2.2.2)
               refine ⟨_, rfl, ?_⟩
               have n0_ := Aside0.mk (Kd.R_below (by (with_reducible repeat (first | apply Kd.R_alloc | apply Kd.R_drewN | apply Kd.R_drew)); exact HO_3.out) hb)
               have n1_ := Aside0.mk (blk_below (g := gb1959) (o := .cells #[.int .i64 ((rd_T26 l0 x10_1).f0), .int .i64 ((rd_T26 l0 x10_1).f1)] 26 (0, 0)) zk hb)
               have n2_ := Aside0.mk (below_step zb hb)
               clear HO_3
               clear BK1959
               clear HB
               have HO_3 := n0_
               have BK1959 := n1_
               have HB := n2_
               clear n0_ n1_ n2_
               (try clear hb)
               (try clear hb2)
               (try clear hk)
               (try clear hi)
               refine hK.out _ _ ⟨(blk_cell BK1959.out 0).trans rfl, (blk_cell BK1959.out 1).trans rfl, HS2_, HS3_⟩ (fun hHeld => ?_)
               clear hK K
               refine norm_ (a' := ?_) ?_ ?_
               rotate_left
               ·show Act.put _ (some 24) _ = _
                exact zs
               refine zp 11 25 12 4095 HT_ ?_
               refine done_ (done_of HT_.out (by kernel_rfl)) ?_
               try go_wp2
               have n0_ := Aside0.mk (Kd.R_drew HO_3.out)
               have n1_ := Aside0.mk (blk_drew BK1959.out)
               have n2_ := Aside0.mk (below_drew1 HB.out)
               clear HO_3
               clear BK1959
               clear HB
               have HO_3 := n0_
               have BK1959 := n1_
               have HB := n2_
               clear n0_ n1_ n2_
               have q25 : (x6_2 : Int) ≤ ((x3_1.length : Int) : Int) := of_decide_eq_true (by first | (with_reducible assumption) | assumption)
               obtain ⟨i025, hi025, _, hsz25, _⟩ := info_parts info26
               have hroom25 : x3_1.length ≤ co22 := (Kd.R_reads' HO_3.out).2.1
               have hC25 : Kd.C k26 _ (some ad1960) x3_1.length x3_1 := (Kd.R_reads' HO_3.out).2.2
               have hcut25 := cut_to (P := Try.prog) 24 26 .i64 Try.underlying24 hi025 (some ad1960) x3_1.length co22 x6_2 (of_decide_eq_true (by first | (with_reducible assumption) | assumption)) q25 hroom25
               have hr25 := Kd.C_take (m := (x6_2 : Int).toNat) hC25 (by omega)
               have hy25 : y1965.length = (x6_2 : Int).toNat := (by rw [Ny1965.out, List.length_take]; omega)
               rw [← Ny1965.out] at hr25
               rw [← hy25] at hcut25
               have HR1968 := Aside0.mk hr25
               have HC1968 := Aside0.mk (show y1965.length ≤ co22 from by omega)
               clear hr25 hC25 hroom25 hi025 hsz25
               have KY25 := Aside0.mk hy25
               clear hy25
               have KL25 := Aside0.mk (show (x6_2 : Int).toNat ≤ x3_1.length from by omega)
               replace q25 := eq_true q25
               refine start_ (n := 9) (S := fun w' => w'.cell? ⟨gb1959, 0, none⟩ = some (.int .i64 ((rd_T26 l0 x10_1).f0)) ∧ w'.cell? ⟨gb1959, 1, none⟩ = some (.int .i64 ((rd_T26 l0 x10_1).f1))) (ds := []) (zl 9 0) (by kernel_rfl) rfl rfl ⟨(blk_cell BK1959.out 0).trans rfl, (blk_cell BK1959.out 1).trans rfl⟩ (fun hHeld => ?_); refine with_tabW spec_bdSorted.tab8 spec_bdSorted.bits8 (fun HT_ HW_ => ?_)
               generalize w23.drew = w24 at HO_3 BK1959 HB HR1968 hHeld ⊢
               refine zp 1 29 9 2 HT_ ?_
               refine zp 2 30 9 6 HT_ ?_
               refine zp 3 31 9 14 HT_ ?_
               refine take_ (i := 5) (N := some 33) (v := ?_) (a' := ?_) (zl 9 46) rfl rfl (take_ofW HT_.out HW_.out (by kernel_rfl)) (fun _ _ _ h => h) (Or.inl ⟨by rfl, ?_⟩) hHeld ?_ ?_
               rotate_left
               ·rintro w' ⟨s0, s1⟩
                go_simp
                with_reducible rfl
               rotate_left
               ·exact zs
               refine join_ (σ := Value × Value × Value) 2 (zl 9 127) (fun s_ => [(28, s_.1), (32, s_.2.1), (34, s_.2.2)]) (fun s_ w' => (w'.cell? ⟨gb1959, 0, none⟩ = some (.int .i64 ((rd_T26 l0 x10_1).f0)) ∧ w'.cell? ⟨gb1959, 1, none⟩ = some (.int .i64 ((rd_T26 l0 x10_1).f1))) ∧ (Kd.R k26 26 w' w.heap.size (fun k_ => some k_ ≠ (s_.2.2 : Value).ownBlock ∧ some k_ ≠ (.slice (some ad1960) x3_1.length co22 : Value).ownBlock ∧ k_ ≠ gb1959) s_.2.1 y1969) ∧ (Kd.R k26 26 w' w.heap.size (fun k_ => some k_ ≠ (s_.2.1 : Value).ownBlock ∧ some k_ ≠ (.slice (some ad1960) x3_1.length co22 : Value).ownBlock ∧ k_ ≠ gb1959) s_.2.2 y1972) ∧ (Kd.R k26 26 w' w.heap.size (fun k_ => some k_ ≠ (s_.2.1 : Value).ownBlock ∧ some k_ ≠ (s_.2.2 : Value).ownBlock ∧ k_ ≠ gb1959) (.slice (some ad1960) x3_1.length co22) x3_1) ∧ (w'.heap[gb1959]? = some (.cells #[.int .i64 ((rd_T26 l0 x10_1).f0), .int .i64 ((rd_T26 l0 x10_1).f1)] 26 (0, 0))) ∧ (Below w.heap.size w w')) ?_ ?_
               rotate_left
               ·intro hCont
                refine two_ (i := 0) (j := 6) (Ni := some 28) (Nj := some 34) (zl 9 47) (zl 9 110) rfl rfl rfl rfl (two_of HT_.out (by kernel_rfl)) (by decide) (by decide) (fun K hK => ?_) (fun K hK => ?_)
                ·skip
                 refine Kd.R_lit_step k26 _ 26 ?hg (N := 28) ?hd (xs := ([] : List (S26))) (inner := []) (ok := fun _ => True) (okp := fun _ => True) ?hr ?hp (fun _ hk => hk) trivial (Below.refl _ _) (Nat.le_refl _) (by simp) ?_; (case hd => rfl); (case hg => rfl); (case hr => first | (go_simp; done) | (go_simp; rfl)); (case hp => exact (Reps.none _ _))
                 intro v1963 w26 ho27 hb hg_ hnew_
                 clear hg_ hnew_
                 (first | rw [← Ny1962.out] at ho27 | (simp only [Int.reduceToNat] at ho27; rw [← Ny1962.out] at ho27))
                 have n0_ := Aside0.mk (Kd.R_elder' (by (with_reducible repeat (first | apply Kd.R_alloc | apply Kd.R_drewN | apply Kd.R_drew)); exact HO_3.out) (Kd.R_base ho27) hb)
                 have n1_ := Aside0.mk (Kd.R_lower (Kd.R_newB (Kd.R_new' ho27 (Kd.R_lt (by (with_reducible repeat (first | apply Kd.R_alloc | apply Kd.R_drewN | apply Kd.R_drew)); exact HO_3.out))) (g := gb1959) (o := .cells #[.int .i64 ((rd_T26 l0 x10_1).f0), .int .i64 ((rd_T26 l0 x10_1).f1)] 26 (0, 0)) zk) (below_size zb))
                 have n2_ := Aside0.mk (blk_below (g := gb1959) (o := .cells #[.int .i64 ((rd_T26 l0 x10_1).f0), .int .i64 ((rd_T26 l0 x10_1).f1)] 26 (0, 0)) zk hb)
                 have n3_ := Aside0.mk (Kd.C_below (by repeat (first | (with_reducible exact HR1968.out) | (with_reducible refine Kd.C_alloc ?_ _) | (with_reducible refine Kd.C_drewN ?_ _) | (with_reducible refine Kd.C_drew ?_) | exact HR1968.out)) hb)
                 have n4_ := Aside0.mk (below_step zb hb)
                 clear HO_3
                 clear BK1959
                 clear HR1968
                 clear HB
                 have HO_3 := n0_
                 have HO1964 := n1_
                 have BK1959 := n2_
                 have HR1968 := n3_
                 have HB := n4_
                 clear n0_ n1_ n2_ n3_ n4_
                 clear hb ho27
                 refine hK.out _ _ ⟨(blk_cell BK1959.out 0).trans rfl, (blk_cell BK1959.out 1).trans rfl⟩ (fun hHeld => ?_)
                 clear hK K
                 refine norm_ (a' := ?_) ?_ ?_
                 rotate_left
                 ·show Act.put _ (some 28) _ = _
                  exact zs
                 refine two_ (i := 4) (j := 6) (Ni := some 32) (Nj := some 34) (zl 9 63) (zl 9 111) rfl rfl rfl rfl (two_of HT_.out (by kernel_rfl)) (by decide) (by decide) (fun K hK => ?_) (fun K hK => ?_)
                 ·skip
                  refine Kd.R_append_rows_step k26 (w0 := w) w.heap.size (by rfl) (.tmp 28) (.tmp 31) 24 26 (.agg #[(.int .i64 0), (.int .i64 0)]) 16 rfl Try.underlying24 info26 rfl (by decide) (by omega) v1963 y1962 y1965 _ _ _ (fun k_ => some k_ ≠ (.slice (some ad1960) x3_1.length co22 : Value).ownBlock ∧ k_ ≠ gb1959) (fun _ => False) rfl rfl ?aO ?aR (fun _ _ h => h) (fun _ h => h.elim) ?aF ?aB ?aS ?aL ?_
                  (case aR => repeat (first | exact (by repeat (first | (with_reducible exact HR1968.out) | (with_reducible refine Kd.C_alloc ?_ _) | (with_reducible refine Kd.C_drewN ?_ _) | (with_reducible refine Kd.C_drew ?_) | exact HR1968.out)) | (with_reducible refine Kd.C_alloc ?_ _) | (with_reducible refine Kd.C_drewN ?_ _) | (with_reducible refine Kd.C_drew ?_)))
                  (case aB => exact zb)
                  (case aF => exact (fun k_ hk => ⟨Kd.fresh' (Kd.R_lt (by (with_reducible repeat (first | apply Kd.R_alloc | apply Kd.R_drewN | apply Kd.R_drew)); exact HO_3.out)) k_ hk, Kd.freshB (g := gb1959) (o := .cells #[.int .i64 ((rd_T26 l0 x10_1).f0), .int .i64 ((rd_T26 l0 x10_1).f1)] 26 (0, 0)) zk k_ hk⟩))
                  (case aO => exact (by (with_reducible repeat (first | apply Kd.R_alloc | apply Kd.R_drewN | apply Kd.R_drew)); exact Kd.R_mono HO1964.out (fun _ hk => ⟨hk.1.2, hk.2⟩)))
                  (case aS => exact (below_size zb))
                  (case aL => have := LMc16.out; omega)
                  intro v1970 w28 ho hb hg hat
                  rw [← Ny1969.out] at ho
                  have n0_ := Aside0.mk (Kd.R_after (ok := (fun k_ => k_ ≠ gb1959)) (by (with_reducible repeat (first | apply Kd.R_alloc | apply Kd.R_drewN | apply Kd.R_drew)); exact HO_3.out) hg hat)
                  have n1_ := Aside0.mk (blk_grown (g := gb1959) (o := .cells #[.int .i64 ((rd_T26 l0 x10_1).f0), .int .i64 ((rd_T26 l0 x10_1).f1)] 26 (0, 0)) zk hg (Kd.R_away HO1964.out (fun _ hk => hk.2)))
                  have n2_ := Aside0.mk (hb)
                  have n3_ := Aside0.mk ((show Kd.C k26 w28 (some ad1960) y1965.length y1965 from by rw [Ny1965.out]; exact Kd.C_take (m := (x6_2 : Int).toNat) ((Kd.R_reads' (Kd.R_after (ok := (fun k_ => k_ ≠ gb1959)) (by (with_reducible repeat (first | apply Kd.R_alloc | apply Kd.R_drewN | apply Kd.R_drew)); exact HO_3.out) hg hat)).2.2) KL25.out))
                  have n4_ := Aside0.mk (ho)
                  clear HO_3
                  clear BK1959
                  clear HB
                  clear HR1968
                  clear HO1964
                  have HO_3 := n0_
                  have BK1959 := n1_
                  have HB := n2_
                  have HR1968 := n3_
                  have HO1971 := n4_
                  clear n0_ n1_ n2_ n3_ n4_
                  clear ho hb hg hat
                  refine hK.out _ _ ⟨(blk_cell BK1959.out 0).trans rfl, (blk_cell BK1959.out 1).trans rfl⟩ (fun hHeld => ?_)
                  clear hK K
                  refine norm_ (a' := ?_) ?_ ?_
                  rotate_left
                  ·show Act.put _ (some 32) _ = _
                   exact zs
                  refine one_ (i := 6) (N := some 34) (zl 9 127) rfl rfl (one_of HT_.out (by kernel_rfl)) (by decide) (fun K hK => ?_)
                  refine Kd.R_lit_step k26 _ 26 ?hg (N := 34) ?hd (xs := ([(⟨((rd_T26 l0 x10_1).f0), ((rd_T26 l0 x10_1).f1)⟩ : S26)] : List (S26))) (inner := [.int .i64 ((rd_T26 l0 x10_1).f0), .int .i64 ((rd_T26 l0 x10_1).f1)]) (ok := fun _ => True) (okp := fun _ => True) ?hr ?hp (fun _ hk => hk) trivial (Below.refl _ _) (Nat.le_refl _) (by simp) ?_; (case hd => rfl); (case hg => rfl); (case hr => first | (go_simp; done) | (go_simp; rfl)); (case hp => exact (Reps.c2 (show Kd.M k26 _ _ _ (⟨((rd_T26 l0 x10_1).f0), ((rd_T26 l0 x10_1).f1)⟩ : S26) [.int .i64 ((rd_T26 l0 x10_1).f0), .int .i64 ((rd_T26 l0 x10_1).f1)] from (k26_mkM _ _ _ (⟨((rd_T26 l0 x10_1).f0), ((rd_T26 l0 x10_1).f1)⟩ : S26) )) (Reps.none _ _)))
                  intro v1973 w29 ho30 hb hg_ hnew_
                  clear hg_ hnew_
                  (first | rw [← Ny1972.out] at ho30 | (simp only [Int.reduceToNat] at ho30; rw [← Ny1972.out] at ho30))
                  have n0_ := Aside0.mk (Kd.R_elder' (by (with_reducible repeat (first | apply Kd.R_alloc | apply Kd.R_drewN | apply Kd.R_drew)); exact HO_3.out) (Kd.R_base ho30) hb)
                  have n1_ := Aside0.mk (Kd.R_elder' (by (with_reducible repeat (first | apply Kd.R_alloc | apply Kd.R_drewN | apply Kd.R_drew)); exact HO1971.out) (Kd.R_base ho30) hb)
                  have n2_ := Aside0.mk (Kd.R_lower (Kd.R_newB (Kd.R_new' (Kd.R_new' ho30 (Kd.R_lt (by (with_reducible repeat (first | apply Kd.R_alloc | apply Kd.R_drewN | apply Kd.R_drew)); exact HO_3.out))) (Kd.R_lt (by (with_reducible repeat (first | apply Kd.R_alloc | apply Kd.R_drewN | apply Kd.R_drew)); exact HO1971.out))) (g := gb1959) (o := .cells #[.int .i64 ((rd_T26 l0 x10_1).f0), .int .i64 ((rd_T26 l0 x10_1).f1)] 26 (0, 0)) zk) (below_size zb))
                  have n3_ := Aside0.mk (blk_below (g := gb1959) (o := .cells #[.int .i64 ((rd_T26 l0 x10_1).f0), .int .i64 ((rd_T26 l0 x10_1).f1)] 26 (0, 0)) zk hb)
                  have n4_ := Aside0.mk (Kd.C_below (by repeat (first | (with_reducible exact HR1968.out) | (with_reducible refine Kd.C_alloc ?_ _) | (with_reducible refine Kd.C_drewN ?_ _) | (with_reducible refine Kd.C_drew ?_) | exact HR1968.out)) hb)
                  have n5_ := Aside0.mk (below_step zb hb)
                  clear HO_3
                  clear HO1971
                  clear BK1959
                  clear HR1968
                  clear HB
                  have HO_3 := n0_
                  have HO1971 := n1_
                  have HO1974 := n2_
                  have BK1959 := n3_
                  have HR1968 := n4_
                  have HB := n5_
                  clear n0_ n1_ n2_ n3_ n4_ n5_
                  clear hb ho30
                  refine hK.out _ _ ⟨(blk_cell BK1959.out 0).trans rfl, (blk_cell BK1959.out 1).trans rfl⟩ (fun hHeld => ?_)
                  clear hK K
                  refine norm_ (a' := ?_) ?_ ?_
                  rotate_left
                  ·show Act.put _ (some 34) _ = _
                   exact zs
                  exact norm_ (by simp only [putAll, Act.put, List.setIfInBounds_toArray, List.set_cons_zero, List.set_cons_succ]) (hCont (v1963, v1970, v1973) _ ⟨hHeld, (by (with_reducible repeat (first | apply Kd.R_alloc | apply Kd.R_drewN | apply Kd.R_drew)); exact Kd.R_mono HO1971.out (fun _ hk => ⟨hk.2, ⟨hk.1.1, hk.1.2⟩⟩)), (by (with_reducible repeat (first | apply Kd.R_alloc | apply Kd.R_drewN | apply Kd.R_drew)); exact Kd.R_mono HO1974.out (fun _ hk => ⟨hk.1.2, ⟨hk.1.1.2, hk.2⟩⟩)), (by (with_reducible repeat (first | apply Kd.R_alloc | apply Kd.R_drewN | apply Kd.R_drew)); exact Kd.R_mono HO_3.out (fun _ hk => ⟨hk.1.2, ⟨hk.2, hk.1.1⟩⟩)), zk, zb⟩)
                 ·skip
                  refine Kd.R_lit_step k26 _ 26 ?hg (N := 34) ?hd (xs := ([(⟨((rd_T26 l0 x10_1).f0), ((rd_T26 l0 x10_1).f1)⟩ : S26)] : List (S26))) (inner := [.int .i64 ((rd_T26 l0 x10_1).f0), .int .i64 ((rd_T26 l0 x10_1).f1)]) (ok := fun _ => True) (okp := fun _ => True) ?hr ?hp (fun _ hk => hk) trivial (Below.refl _ _) (Nat.le_refl _) (by simp) ?_; (case hd => rfl); (case hg => rfl); (case hr => first | (go_simp; done) | (go_simp; rfl)); (case hp => exact (Reps.c2 (show Kd.M k26 _ _ _ (⟨((rd_T26 l0 x10_1).f0), ((rd_T26 l0 x10_1).f1)⟩ : S26) [.int .i64 ((rd_T26 l0 x10_1).f0), .int .i64 ((rd_T26 l0 x10_1).f1)] from (k26_mkM _ _ _ (⟨((rd_T26 l0 x10_1).f0), ((rd_T26 l0 x10_1).f1)⟩ : S26) )) (Reps.none _ _)))
                  intro v1973 w28 ho29 hb hg_ hnew_
                  clear hg_ hnew_
                  (first | rw [← Ny1972.out] at ho29 | (simp only [Int.reduceToNat] at ho29; rw [← Ny1972.out] at ho29))
                  have n0_ := Aside0.mk (Kd.R_elder' (by (with_reducible repeat (first | apply Kd.R_alloc | apply Kd.R_drewN | apply Kd.R_drew)); exact HO_3.out) (Kd.R_base ho29) hb)
                  have n1_ := Aside0.mk (Kd.R_elder' (by (with_reducible repeat (first | apply Kd.R_alloc | apply Kd.R_drewN | apply Kd.R_drew)); exact HO1964.out) (Kd.R_base ho29) hb)
                  have n2_ := Aside0.mk (Kd.R_lower (Kd.R_newB (Kd.R_new' (Kd.R_new' ho29 (Kd.R_lt (by (with_reducible repeat (first | apply Kd.R_alloc | apply Kd.R_drewN | apply Kd.R_drew)); exact HO_3.out))) (Kd.R_lt (by (with_reducible repeat (first | apply Kd.R_alloc | apply Kd.R_drewN | apply Kd.R_drew)); exact HO1964.out))) (g := gb1959) (o := .cells #[.int .i64 ((rd_T26 l0 x10_1).f0), .int .i64 ((rd_T26 l0 x10_1).f1)] 26 (0, 0)) zk) (below_size zb))
                  have n3_ := Aside0.mk (blk_below (g := gb1959) (o := .cells #[.int .i64 ((rd_T26 l0 x10_1).f0), .int .i64 ((rd_T26 l0 x10_1).f1)] 26 (0, 0)) zk hb)
                  have n4_ := Aside0.mk (Kd.C_below (by repeat (first | (with_reducible exact HR1968.out) | (with_reducible refine Kd.C_alloc ?_ _) | (with_reducible refine Kd.C_drewN ?_ _) | (with_reducible refine Kd.C_drew ?_) | exact HR1968.out)) hb)
                  have n5_ := Aside0.mk (below_step zb hb)
                  clear HO_3
                  clear HO1964
                  clear BK1959
                  clear HR1968
                  clear HB
                  have HO_3 := n0_
                  have HO1964 := n1_
                  have HO1974 := n2_
                  have BK1959 := n3_
                  have HR1968 := n4_
                  have HB := n5_
                  clear n0_ n1_ n2_ n3_ n4_ n5_
                  clear hb ho29
                  refine hK.out _ _ ⟨(blk_cell BK1959.out 0).trans rfl, (blk_cell BK1959.out 1).trans rfl⟩ (fun hHeld => ?_)
                  clear hK K
                  refine norm_ (a' := ?_) ?_ ?_
                  rotate_left
                  ·show Act.put _ (some 34) _ = _
                   exact zs
                  refine one_ (i := 4) (N := some 32) (zl 9 127) rfl rfl (one_of HT_.out (by kernel_rfl)) (by decide) (fun K hK => ?_)
                  refine Kd.R_append_rows_step k26 (w0 := w) w.heap.size (by rfl) (.tmp 28) (.tmp 31) 24 26 (.agg #[(.int .i64 0), (.int .i64 0)]) 16 rfl Try.underlying24 info26 rfl (by decide) (by omega) v1963 y1962 y1965 _ _ _ (fun k_ => some k_ ≠ (.slice (some ad1960) x3_1.length co22 : Value).ownBlock ∧ some k_ ≠ (v1973 : Value).ownBlock ∧ k_ ≠ gb1959) (fun _ => False) rfl rfl ?aO ?aR (fun _ _ h => h) (fun _ h => h.elim) ?aF ?aB ?aS ?aL ?_
                  (case aR => repeat (first | exact (by repeat (first | (with_reducible exact HR1968.out) | (with_reducible refine Kd.C_alloc ?_ _) | (with_reducible refine Kd.C_drewN ?_ _) | (with_reducible refine Kd.C_drew ?_) | exact HR1968.out)) | (with_reducible refine Kd.C_alloc ?_ _) | (with_reducible refine Kd.C_drewN ?_ _) | (with_reducible refine Kd.C_drew ?_)))
                  (case aB => exact zb)
                  (case aF => exact (fun k_ hk => ⟨Kd.fresh' (Kd.R_lt (by (with_reducible repeat (first | apply Kd.R_alloc | apply Kd.R_drewN | apply Kd.R_drew)); exact HO_3.out)) k_ hk, Kd.fresh' (Kd.R_lt (by (with_reducible repeat (first | apply Kd.R_alloc | apply Kd.R_drewN | apply Kd.R_drew)); exact HO1974.out)) k_ hk, Kd.freshB (g := gb1959) (o := .cells #[.int .i64 ((rd_T26 l0 x10_1).f0), .int .i64 ((rd_T26 l0 x10_1).f1)] 26 (0, 0)) zk k_ hk⟩))
                  (case aO => exact (by (with_reducible repeat (first | apply Kd.R_alloc | apply Kd.R_drewN | apply Kd.R_drew)); exact Kd.R_mono HO1964.out (fun _ hk => ⟨hk.1.1.2, ⟨hk.2, hk.1.2⟩⟩)))
                  (case aS => exact (below_size zb))
                  (case aL => have := LMc16.out; omega)
                  intro v1970 w30 ho hb hg hat
                  rw [← Ny1969.out] at ho
                  have n0_ := Aside0.mk (Kd.R_after (ok := (fun k_ => some k_ ≠ (v1973 : Value).ownBlock ∧ k_ ≠ gb1959)) (by (with_reducible repeat (first | apply Kd.R_alloc | apply Kd.R_drewN | apply Kd.R_drew)); exact Kd.R_mono HO_3.out (fun _ hk => ⟨⟨hk.2, hk.1.1⟩, hk.1.2⟩)) hg hat)
                  have n1_ := Aside0.mk (blk_grown (g := gb1959) (o := .cells #[.int .i64 ((rd_T26 l0 x10_1).f0), .int .i64 ((rd_T26 l0 x10_1).f1)] 26 (0, 0)) zk hg (Kd.R_away HO1964.out (fun _ hk => hk.1.2)))
                  have n2_ := Aside0.mk (Kd.R_after (ok := (fun k_ => some k_ ≠ (.slice (some ad1960) x3_1.length co22 : Value).ownBlock ∧ k_ ≠ gb1959)) (by (with_reducible repeat (first | apply Kd.R_alloc | apply Kd.R_drewN | apply Kd.R_drew)); exact Kd.R_mono HO1974.out (fun _ hk => ⟨⟨hk.1.1.2, hk.2⟩, hk.1.2⟩)) hg hat)
                  have n3_ := Aside0.mk (hb)
                  have n4_ := Aside0.mk ((show Kd.C k26 w30 (some ad1960) y1965.length y1965 from by rw [Ny1965.out]; exact Kd.C_take (m := (x6_2 : Int).toNat) ((Kd.R_reads' (Kd.R_after (ok := (fun k_ => some k_ ≠ (v1973 : Value).ownBlock ∧ k_ ≠ gb1959)) (by (with_reducible repeat (first | apply Kd.R_alloc | apply Kd.R_drewN | apply Kd.R_drew)); exact Kd.R_mono HO_3.out (fun _ hk => ⟨⟨hk.2, hk.1.1⟩, hk.1.2⟩)) hg hat)).2.2) KL25.out))
                  have n5_ := Aside0.mk (ho)
                  clear HO_3
                  clear BK1959
                  clear HO1974
                  clear HB
                  clear HR1968
                  clear HO1964
                  have HO_3 := n0_
                  have BK1959 := n1_
                  have HO1974 := n2_
                  have HB := n3_
                  have HR1968 := n4_
                  have HO1971 := n5_
                  clear n0_ n1_ n2_ n3_ n4_ n5_
                  clear ho hb hg hat
                  refine hK.out _ _ ⟨(blk_cell BK1959.out 0).trans rfl, (blk_cell BK1959.out 1).trans rfl⟩ (fun hHeld => ?_)
                  clear hK K
                  refine norm_ (a' := ?_) ?_ ?_
                  rotate_left
                  ·show Act.put _ (some 32) _ = _
                   exact zs
                  exact norm_ (by simp only [putAll, Act.put, List.setIfInBounds_toArray, List.set_cons_zero, List.set_cons_succ]) (hCont (v1963, v1970, v1973) _ ⟨hHeld, (by (with_reducible repeat (first | apply Kd.R_alloc | apply Kd.R_drewN | apply Kd.R_drew)); exact Kd.R_mono HO1971.out (fun _ hk => ⟨hk.2.1, ⟨hk.1, hk.2.2⟩⟩)), (by (with_reducible repeat (first | apply Kd.R_alloc | apply Kd.R_drewN | apply Kd.R_drew)); exact Kd.R_mono HO1974.out (fun _ hk => ⟨hk.2, ⟨hk.1.1, hk.1.2⟩⟩)), (by (with_reducible repeat (first | apply Kd.R_alloc | apply Kd.R_drewN | apply Kd.R_drew)); exact Kd.R_mono HO_3.out (fun _ hk => ⟨hk.2, ⟨hk.1.1, hk.1.2⟩⟩)), zk, zb⟩)
                ·skip
                 refine Kd.R_lit_step k26 _ 26 ?hg (N := 34) ?hd (xs := ([(⟨((rd_T26 l0 x10_1).f0), ((rd_T26 l0 x10_1).f1)⟩ : S26)] : List (S26))) (inner := [.int .i64 ((rd_T26 l0 x10_1).f0), .int .i64 ((rd_T26 l0 x10_1).f1)]) (ok := fun _ => True) (okp := fun _ => True) ?hr ?hp (fun _ hk => hk) trivial (Below.refl _ _) (Nat.le_refl _) (by simp) ?_; (case hd => rfl); (case hg => rfl); (case hr => first | (go_simp; done) | (go_simp; rfl)); (case hp => exact (Reps.c2 (show Kd.M k26 _ _ _ (⟨((rd_T26 l0 x10_1).f0), ((rd_T26 l0 x10_1).f1)⟩ : S26) [.int .i64 ((rd_T26 l0 x10_1).f0), .int .i64 ((rd_T26 l0 x10_1).f1)] from (k26_mkM _ _ _ (⟨((rd_T26 l0 x10_1).f0), ((rd_T26 l0 x10_1).f1)⟩ : S26) )) (Reps.none _ _)))
                 intro v1973 w26 ho27 hb hg_ hnew_
                 clear hg_ hnew_
                 (first | rw [← Ny1972.out] at ho27 | (simp only [Int.reduceToNat] at ho27; rw [← Ny1972.out] at ho27))
                 have n0_ := Aside0.mk (Kd.R_elder' (by (with_reducible repeat (first | apply Kd.R_alloc | apply Kd.R_drewN | apply Kd.R_drew)); exact HO_3.out) (Kd.R_base ho27) hb)
                 have n1_ := Aside0.mk (Kd.R_lower (Kd.R_newB (Kd.R_new' ho27 (Kd.R_lt (by (with_reducible repeat (first | apply Kd.R_alloc | apply Kd.R_drewN | apply Kd.R_drew)); exact HO_3.out))) (g := gb1959) (o := .cells #[.int .i64 ((rd_T26 l0 x10_1).f0), .int .i64 ((rd_T26 l0 x10_1).f1)] 26 (0, 0)) zk) (below_size zb))
                 have n2_ := Aside0.mk (blk_below (g := gb1959) (o := .cells #[.int .i64 ((rd_T26 l0 x10_1).f0), .int .i64 ((rd_T26 l0 x10_1).f1)] 26 (0, 0)) zk hb)
                 have n3_ := Aside0.mk (Kd.C_below (by repeat (first | (with_reducible exact HR1968.out) | (with_reducible refine Kd.C_alloc ?_ _) | (with_reducible refine Kd.C_drewN ?_ _) | (with_reducible refine Kd.C_drew ?_) | exact HR1968.out)) hb)
                 have n4_ := Aside0.mk (below_step zb hb)
                 clear HO_3
                 clear BK1959
                 clear HR1968
                 clear HB
                 have HO_3 := n0_
                 have HO1974 := n1_
                 have BK1959 := n2_
                 have HR1968 := n3_
                 have HB := n4_
                 clear n0_ n1_ n2_ n3_ n4_
                 clear hb ho27
                 refine hK.out _ _ ⟨(blk_cell BK1959.out 0).trans rfl, (blk_cell BK1959.out 1).trans rfl⟩ (fun hHeld => ?_)
                 clear hK K
                 refine norm_ (a' := ?_) ?_ ?_
                 rotate_left
                 ·show Act.put _ (some 34) _ = _
                  exact zs
                 refine one_ (i := 0) (N := some 28) (zl 9 111) rfl rfl (one_of HT_.out (by kernel_rfl)) (by decide) (fun K hK => ?_)
                 refine Kd.R_lit_step k26 _ 26 ?hg (N := 28) ?hd (xs := ([] : List (S26))) (inner := []) (ok := fun _ => True) (okp := fun _ => True) ?hr ?hp (fun _ hk => hk) trivial (Below.refl _ _) (Nat.le_refl _) (by simp) ?_; (case hd => rfl); (case hg => rfl); (case hr => first | (go_simp; done) | (go_simp; rfl)); (case hp => exact (Reps.none _ _))
                 intro v1963 w28 ho29 hb hg_ hnew_
                 clear hg_ hnew_
                 (first | rw [← Ny1962.out] at ho29 | (simp only [Int.reduceToNat] at ho29; rw [← Ny1962.out] at ho29))
                 have n0_ := Aside0.mk (Kd.R_elder' (by (with_reducible repeat (first | apply Kd.R_alloc | apply Kd.R_drewN | apply Kd.R_drew)); exact HO_3.out) (Kd.R_base ho29) hb)
                 have n1_ := Aside0.mk (Kd.R_elder' (by (with_reducible repeat (first | apply Kd.R_alloc | apply Kd.R_drewN | apply Kd.R_drew)); exact HO1974.out) (Kd.R_base ho29) hb)
                 have n2_ := Aside0.mk (Kd.R_lower (Kd.R_newB (Kd.R_new' (Kd.R_new' ho29 (Kd.R_lt (by (with_reducible repeat (first | apply Kd.R_alloc | apply Kd.R_drewN | apply Kd.R_drew)); exact HO_3.out))) (Kd.R_lt (by (with_reducible repeat (first | apply Kd.R_alloc | apply Kd.R_drewN | apply Kd.R_drew)); exact HO1974.out))) (g := gb1959) (o := .cells #[.int .i64 ((rd_T26 l0 x10_1).f0), .int .i64 ((rd_T26 l0 x10_1).f1)] 26 (0, 0)) zk) (below_size zb))
                 have n3_ := Aside0.mk (blk_below (g := gb1959) (o := .cells #[.int .i64 ((rd_T26 l0 x10_1).f0), .int .i64 ((rd_T26 l0 x10_1).f1)] 26 (0, 0)) zk hb)
                 have n4_ := Aside0.mk (Kd.C_below (by repeat (first | (with_reducible exact HR1968.out) | (with_reducible refine Kd.C_alloc ?_ _) | (with_reducible refine Kd.C_drewN ?_ _) | (with_reducible refine Kd.C_drew ?_) | exact HR1968.out)) hb)
                 have n5_ := Aside0.mk (below_step zb hb)
                 clear HO_3
                 clear HO1974
                 clear BK1959
                 clear HR1968
                 clear HB
                 have HO_3 := n0_
                 have HO1974 := n1_
                 have HO1964 := n2_
                 have BK1959 := n3_
                 have HR1968 := n4_
                 have HB := n5_
                 clear n0_ n1_ n2_ n3_ n4_ n5_
                 clear hb ho29
                 refine hK.out _ _ ⟨(blk_cell BK1959.out 0).trans rfl, (blk_cell BK1959.out 1).trans rfl⟩ (fun hHeld => ?_)
                 clear hK K
                 refine norm_ (a' := ?_) ?_ ?_
                 rotate_left
                 ·show Act.put _ (some 28) _ = _
                  exact zs
                 refine one_ (i := 4) (N := some 32) (zl 9 127) rfl rfl (one_of HT_.out (by kernel_rfl)) (by decide) (fun K hK => ?_)
                 refine Kd.R_append_rows_step k26 (w0 := w) w.heap.size (by rfl) (.tmp 28) (.tmp 31) 24 26 (.agg #[(.int .i64 0), (.int .i64 0)]) 16 rfl Try.underlying24 info26 rfl (by decide) (by omega) v1963 y1962 y1965 _ _ _ (fun k_ => some k_ ≠ (.slice (some ad1960) x3_1.length co22 : Value).ownBlock ∧ some k_ ≠ (v1973 : Value).ownBlock ∧ k_ ≠ gb1959) (fun _ => False) rfl rfl ?aO ?aR (fun _ _ h => h) (fun _ h => h.elim) ?aF ?aB ?aS ?aL ?_
                 (case aR => repeat (first | exact (by repeat (first | (with_reducible exact HR1968.out) | (with_reducible refine Kd.C_alloc ?_ _) | (with_reducible refine Kd.C_drewN ?_ _) | (with_reducible refine Kd.C_drew ?_) | exact HR1968.out)) | (with_reducible refine Kd.C_alloc ?_ _) | (with_reducible refine Kd.C_drewN ?_ _) | (with_reducible refine Kd.C_drew ?_)))
                 (case aB => exact zb)
                 (case aF => exact (fun k_ hk => ⟨Kd.fresh' (Kd.R_lt (by (with_reducible repeat (first | apply Kd.R_alloc | apply Kd.R_drewN | apply Kd.R_drew)); exact HO_3.out)) k_ hk, Kd.fresh' (Kd.R_lt (by (with_reducible repeat (first | apply Kd.R_alloc | apply Kd.R_drewN | apply Kd.R_drew)); exact HO1974.out)) k_ hk, Kd.freshB (g := gb1959) (o := .cells #[.int .i64 ((rd_T26 l0 x10_1).f0), .int .i64 ((rd_T26 l0 x10_1).f1)] 26 (0, 0)) zk k_ hk⟩))
                 (case aO => exact (by (with_reducible repeat (first | apply Kd.R_alloc | apply Kd.R_drewN | apply Kd.R_drew)); exact Kd.R_mono HO1964.out (fun _ hk => ⟨hk.1.1.2, ⟨hk.1.2, hk.2⟩⟩)))
                 (case aS => exact (below_size zb))
                 (case aL => have := LMc16.out; omega)
                 intro v1970 w30 ho hb hg hat
                 rw [← Ny1969.out] at ho
                 have n0_ := Aside0.mk (Kd.R_after (ok := (fun k_ => some k_ ≠ (v1973 : Value).ownBlock ∧ k_ ≠ gb1959)) (by (with_reducible repeat (first | apply Kd.R_alloc | apply Kd.R_drewN | apply Kd.R_drew)); exact Kd.R_mono HO_3.out (fun _ hk => ⟨⟨hk.1.2, hk.1.1⟩, hk.2⟩)) hg hat)
                 have n1_ := Aside0.mk (blk_grown (g := gb1959) (o := .cells #[.int .i64 ((rd_T26 l0 x10_1).f0), .int .i64 ((rd_T26 l0 x10_1).f1)] 26 (0, 0)) zk hg (Kd.R_away HO1964.out (fun _ hk => hk.2)))
                 have n2_ := Aside0.mk (Kd.R_after (ok := (fun k_ => some k_ ≠ (.slice (some ad1960) x3_1.length co22 : Value).ownBlock ∧ k_ ≠ gb1959)) (by (with_reducible repeat (first | apply Kd.R_alloc | apply Kd.R_drewN | apply Kd.R_drew)); exact Kd.R_mono HO1974.out (fun _ hk => ⟨⟨hk.1.1.2, hk.1.2⟩, hk.2⟩)) hg hat)
                 have n3_ := Aside0.mk (hb)
                 have n4_ := Aside0.mk ((show Kd.C k26 w30 (some ad1960) y1965.length y1965 from by rw [Ny1965.out]; exact Kd.C_take (m := (x6_2 : Int).toNat) ((Kd.R_reads' (Kd.R_after (ok := (fun k_ => some k_ ≠ (v1973 : Value).ownBlock ∧ k_ ≠ gb1959)) (by (with_reducible repeat (first | apply Kd.R_alloc | apply Kd.R_drewN | apply Kd.R_drew)); exact Kd.R_mono HO_3.out (fun _ hk => ⟨⟨hk.1.2, hk.1.1⟩, hk.2⟩)) hg hat)).2.2) KL25.out))
                 have n5_ := Aside0.mk (ho)
                 clear HO_3
                 clear BK1959
                 clear HO1974
                 clear HB
                 clear HR1968
                 clear HO1964
                 have HO_3 := n0_
                 have BK1959 := n1_
                 have HO1974 := n2_
                 have HB := n3_
                 have HR1968 := n4_
                 have HO1971 := n5_
                 clear n0_ n1_ n2_ n3_ n4_ n5_
                 clear ho hb hg hat
                 refine hK.out _ _ ⟨(blk_cell BK1959.out 0).trans rfl, (blk_cell BK1959.out 1).trans rfl⟩ (fun hHeld => ?_)
                 clear hK K
                 refine norm_ (a' := ?_) ?_ ?_
                 rotate_left
                 ·show Act.put _ (some 32) _ = _
                  exact zs
                 exact norm_ (by simp only [putAll, Act.put, List.setIfInBounds_toArray, List.set_cons_zero, List.set_cons_succ]) (hCont (v1963, v1970, v1973) _ ⟨hHeld, (by (with_reducible repeat (first | apply Kd.R_alloc | apply Kd.R_drewN | apply Kd.R_drew)); exact Kd.R_mono HO1971.out (fun _ hk => ⟨hk.2.1, ⟨hk.1, hk.2.2⟩⟩)), (by (with_reducible repeat (first | apply Kd.R_alloc | apply Kd.R_drewN | apply Kd.R_drew)); exact Kd.R_mono HO1974.out (fun _ hk => ⟨hk.2, ⟨hk.1.1, hk.1.2⟩⟩)), (by (with_reducible repeat (first | apply Kd.R_alloc | apply Kd.R_drewN | apply Kd.R_drew)); exact Kd.R_mono HO_3.out (fun _ hk => ⟨hk.2, ⟨hk.1.1, hk.1.2⟩⟩)), zk, zb⟩)
               rintro ⟨v1963, v1970, v1973⟩ w31 ⟨hS_, h0_, h1_, h2_, h3_, h4_⟩
               have n0_ : Aside0 (Kd.R k26 26 w31 w.heap.size (fun k_ => some k_ ≠ (v1973 : Value).ownBlock ∧ some k_ ≠ (.slice (some ad1960) x3_1.length co22 : Value).ownBlock ∧ k_ ≠ gb1959) v1970 y1969) := ⟨h0_⟩
               have n1_ : Aside0 (Kd.R k26 26 w31 w.heap.size (fun k_ => some k_ ≠ (v1970 : Value).ownBlock ∧ some k_ ≠ (.slice (some ad1960) x3_1.length co22 : Value).ownBlock ∧ k_ ≠ gb1959) v1973 y1972) := ⟨h1_⟩
               have n2_ : Aside0 (Kd.R k26 26 w31 w.heap.size (fun k_ => some k_ ≠ (v1970 : Value).ownBlock ∧ some k_ ≠ (v1973 : Value).ownBlock ∧ k_ ≠ gb1959) (.slice (some ad1960) x3_1.length co22) x3_1) := ⟨h2_⟩
               have n3_ : Aside0 (w31.heap[gb1959]? = some (.cells #[.int .i64 ((rd_T26 l0 x10_1).f0), .int .i64 ((rd_T26 l0 x10_1).f1)] 26 (0, 0))) := ⟨h3_⟩
               have n4_ : Aside0 (Below w.heap.size w w31) := ⟨h4_⟩
               clear HO_3
               clear BK1959
               clear HB
               clear h0_ h1_ h2_ h3_ h4_
               have HO1971 := n0_
               have HO1974 := n1_
               have HO_3 := n2_
               have BK1959 := n3_
               have HB := n4_
               clear n0_ n1_ n2_ n3_ n4_
               have hHeld : w31.cell? ⟨gb1959, 0, none⟩ = some (.int .i64 ((rd_T26 l0 x10_1).f0)) ∧ w31.cell? ⟨gb1959, 1, none⟩ = some (.int .i64 ((rd_T26 l0 x10_1).f1)) := hS_
               obtain ⟨Ao33, co33, eo33⟩ := Kd.R_slice HO1974.out
               (first | subst eo33 | (injection eo33 with f1_ f2_ f3_; have f4_ := f1_.symm; have f5_ := f3_.symm; clear f1_ f2_ f3_; subst f4_; subst f5_))
               refine norm_ (a' := ?_) ?_ ?_
               rotate_left
               ·simp only [putAll, Act.put, List.setIfInBounds_toArray, List.set_cons_zero, List.set_cons_succ]
                rfl
               refine one_ (i := 7) (N := some 35) (zl 9 255) rfl rfl (one_of HT_.out (by kernel_rfl)) (by decide) (fun K hK => ?_)
               refine Kd.R_append_rows_step k26 (w0 := w) w.heap.size (by rfl) (.tmp 32) (.tmp 34) 24 26 (.agg #[(.int .i64 0), (.int .i64 0)]) 16 rfl Try.underlying24 info26 rfl (by decide) (by omega) v1970 y1969 y1972 _ _ _ (fun k_ => some k_ ≠ (.slice (some ad1960) x3_1.length co22 : Value).ownBlock ∧ some k_ ≠ (.slice Ao33 y1972.length co33 : Value).ownBlock ∧ k_ ≠ gb1959) (fun _ => False) rfl rfl ?aO ?aR (fun _ _ h => h) (fun _ h => h.elim) ?aF ?aB ?aS ?aL ?_
               (case aR => repeat (first | exact (Kd.R_reads' HO1974.out).2.2 | (with_reducible refine Kd.C_alloc ?_ _) | (with_reducible refine Kd.C_drewN ?_ _) | (with_reducible refine Kd.C_drew ?_)))
               (case aB => exact zb)
               (case aF => exact (fun k_ hk => ⟨Kd.fresh' (Kd.R_lt (by (with_reducible repeat (first | apply Kd.R_alloc | apply Kd.R_drewN | apply Kd.R_drew)); exact HO_3.out)) k_ hk, Kd.fresh' (Kd.R_lt (by (with_reducible repeat (first | apply Kd.R_alloc | apply Kd.R_drewN | apply Kd.R_drew)); exact HO1974.out)) k_ hk, Kd.freshB (g := gb1959) (o := .cells #[.int .i64 ((rd_T26 l0 x10_1).f0), .int .i64 ((rd_T26 l0 x10_1).f1)] 26 (0, 0)) zk k_ hk⟩))
               (case aO => exact (by (with_reducible repeat (first | apply Kd.R_alloc | apply Kd.R_drewN | apply Kd.R_drew)); exact Kd.R_mono HO1971.out (fun _ hk => ⟨hk.2.1, ⟨hk.1, hk.2.2⟩⟩)))
               (case aS => exact (below_size zb))
               (case aL => have := LMc17.out; omega)
               intro v1976 w32 ho hb hg hat
               rw [← Ny1975.out] at ho
               have n0_ := Aside0.mk (Kd.R_after (ok := (fun k_ => some k_ ≠ (.slice Ao33 y1972.length co33 : Value).ownBlock ∧ k_ ≠ gb1959)) (by (with_reducible repeat (first | apply Kd.R_alloc | apply Kd.R_drewN | apply Kd.R_drew)); exact Kd.R_mono HO_3.out (fun _ hk => ⟨⟨hk.2.1, hk.2.2⟩, hk.1⟩)) hg hat)
               have n1_ := Aside0.mk (blk_grown (g := gb1959) (o := .cells #[.int .i64 ((rd_T26 l0 x10_1).f0), .int .i64 ((rd_T26 l0 x10_1).f1)] 26 (0, 0)) zk hg (Kd.R_away HO1971.out (fun _ hk => hk.2.2)))
               have n2_ := Aside0.mk (Kd.R_after (ok := (fun k_ => some k_ ≠ (.slice (some ad1960) x3_1.length co22 : Value).ownBlock ∧ k_ ≠ gb1959)) (by (with_reducible repeat (first | apply Kd.R_alloc | apply Kd.R_drewN | apply Kd.R_drew)); exact Kd.R_mono HO1974.out (fun _ hk => ⟨⟨hk.2.1, hk.2.2⟩, hk.1⟩)) hg hat)
               have n3_ := Aside0.mk (hb)
               have n4_ := Aside0.mk (ho)
               clear HO_3
               clear BK1959
               clear HO1974
               clear HB
               clear HO1971
               have HO_3 := n0_
               have BK1959 := n1_
               have HO1974 := n2_
               have HB := n3_
               have HO1977 := n4_
               clear n0_ n1_ n2_ n3_ n4_
               clear ho hb hg hat
               refine hK.out _ _ ⟨(blk_cell BK1959.out 0).trans rfl, (blk_cell BK1959.out 1).trans rfl⟩ (fun hHeld => ?_)
               clear hK K
               refine norm_ (a' := ?_) ?_ ?_
               rotate_left
               ·show Act.put _ (some 35) _ = _
                exact zs
               refine zp 8 7 9 511 HT_ ?_
               refine done_ (done_of HT_.out (by kernel_rfl)) ?_
               have q34 : (x6_2 : Int) ≤ ((x3_1.length : Int) : Int) := of_decide_eq_true (by first | (with_reducible assumption) | assumption)
               obtain ⟨i034, hi034, _, hsz34, _⟩ := info_parts info26
               have hroom34 : x3_1.length ≤ co22 := (Kd.R_reads' HO_3.out).2.1
               have hC34 : Kd.C k26 _ (some ad1960) x3_1.length x3_1 := (Kd.R_reads' HO_3.out).2.2
               have q034 : (0 : Int) ≤ (x6_2 : Int) := of_decide_eq_true (by first | (with_reducible assumption) | assumption)
               have hcut34 := cut_from (P := Try.prog) 24 26 .i64 Try.underlying24 hi034 2 hsz34 (some ad1960) x3_1.length co22 x6_2 q034 q34
               have hr34 := Kd.C_drop (m := (x6_2 : Int).toNat) (c := co22) hC34 (by omega) hroom34
               obtain ⟨A34, hA34⟩ : ∃ A1, A1 = (if co22 = (x6_2 : Int).toNat then (some ad1960) else ((some ad1960) : Option Addr).map (·.add ((x6_2 : Int).toNat * 2))) := ⟨_, rfl⟩
               obtain ⟨c34, hc34⟩ : ∃ c1, c1 = co22 - (x6_2 : Int).toNat := ⟨_, rfl⟩
               have hy34 : y1978.length = x3_1.length - (x6_2 : Int).toNat := (by rw [Ny1978.out, List.length_drop] <;> omega)
               rw [show (x3_1).drop (x6_2 : Int).toNat = y1978 from Ny1978.out.symm] at hr34
               replace hr34 : Kd.C k26 _ A34 y1978.length y1978 := (by rw [hA34]; exact hr34)
               rw [← hy34, ← hA34, ← hc34] at hcut34
               have HR1981 := Aside0.mk hr34
               have HC1981 := Aside0.mk (show y1978.length ≤ c34 from by rw [hy34, hc34]; exact Nat.sub_le_sub_right hroom34 _)
               clear hr34 hC34 hroom34 hi034 hsz34 hc34
               have KY34 := Aside0.mk hy34
               have KA34 := Aside0.mk hA34
               clear hy34 hA34
               have KL34 := Aside0.mk (show (x6_2 : Int).toNat ≤ x3_1.length from by omega)
               replace q34 := eq_true q34
               try go_wp2_with (first | ((with_reducible refine gate_builtin (b := .append) (xs := #[.tmp 36, .tmp 39]) rfl ?_); at_builtin; refine Kd.R_append_rows k26 (w0 := w) w.heap.size rfl (.tmp 36) (.tmp 39) 24 26 (.agg #[(.int .i64 0), (.int .i64 0)]) 16 rfl Try.underlying24 info26 rfl (by decide) (by omega) v1976 y1975 y1978 _ _ _ (fun k_ => some k_ ≠ (.slice (some ad1960) x3_1.length co22 : Value).ownBlock ∧ some k_ ≠ (.slice Ao33 y1972.length co33 : Value).ownBlock ∧ k_ ≠ gb1959) (fun _ => False) rfl rfl ?aO ?aR (fun _ _ h => h) (fun _ h => h.elim) ?aF ?aB ?aS ?aL ?_; (case aR => repeat (first | exact (by repeat (first | (with_reducible exact HR1981.out) | (with_reducible refine Kd.C_alloc ?_ _) | (with_reducible refine Kd.C_drewN ?_ _) | (with_reducible refine Kd.C_drew ?_) | exact HR1981.out)) | (with_reducible refine Kd.C_alloc ?_ _) | (with_reducible refine Kd.C_drewN ?_ _) | (with_reducible refine Kd.C_drew ?_))); (case aB => exact zb); (case aF => exact (fun k_ hk => ⟨Kd.fresh' (Kd.R_lt (by (with_reducible repeat (first | apply Kd.R_alloc | apply Kd.R_drewN | apply Kd.R_drew)); exact HO_3.out)) k_ hk, Kd.fresh' (Kd.R_lt (by (with_reducible repeat (first | apply Kd.R_alloc | apply Kd.R_drewN | apply Kd.R_drew)); exact HO1974.out)) k_ hk, Kd.freshB (g := gb1959) (o := .cells #[.int .i64 ((rd_T26 l0 x10_1).f0), .int .i64 ((rd_T26 l0 x10_1).f1)] 26 (0, 0)) zk k_ hk⟩)); (case aO => exact (by (with_reducible repeat (first | apply Kd.R_alloc | apply Kd.R_drewN | apply Kd.R_drew)); exact HO1977.out)); (case aS => exact (below_size zb)); (case aL => have := LMc20.out; omega); intro v1983 w35 ho hb hg hat; rw [← Ny1982.out] at ho; have n0_ := Aside0.mk (Kd.R_after (ok := (fun k_ => some k_ ≠ (.slice Ao33 y1972.length co33 : Value).ownBlock ∧ k_ ≠ gb1959)) (by (with_reducible repeat (first | apply Kd.R_alloc | apply Kd.R_drewN | apply Kd.R_drew)); exact HO_3.out) hg hat); have n1_ := Aside0.mk (blk_grown (g := gb1959) (o := .cells #[.int .i64 ((rd_T26 l0 x10_1).f0), .int .i64 ((rd_T26 l0 x10_1).f1)] 26 (0, 0)) zk hg (Kd.R_away HO1977.out (fun _ hk => hk.2.2))); have n2_ := Aside0.mk (Kd.R_after (ok := (fun k_ => some k_ ≠ (.slice (some ad1960) x3_1.length co22 : Value).ownBlock ∧ k_ ≠ gb1959)) (by (with_reducible repeat (first | apply Kd.R_alloc | apply Kd.R_drewN | apply Kd.R_drew)); exact HO1974.out) hg hat); have n3_ := Aside0.mk (hb); have n4_ := Aside0.mk ((show Kd.C k26 w35 A34 y1978.length y1978 from by rw [Ny1978.out, KA34.out]; exact Kd.C_drop (m := (x6_2 : Int).toNat) (c := co22) ((Kd.R_reads' (Kd.R_after (ok := (fun k_ => some k_ ≠ (.slice Ao33 y1972.length co33 : Value).ownBlock ∧ k_ ≠ gb1959)) (by (with_reducible repeat (first | apply Kd.R_alloc | apply Kd.R_drewN | apply Kd.R_drew)); exact HO_3.out) hg hat)).2.2) KL34.out ((Kd.R_reads' (Kd.R_after (ok := (fun k_ => some k_ ≠ (.slice Ao33 y1972.length co33 : Value).ownBlock ∧ k_ ≠ gb1959)) (by (with_reducible repeat (first | apply Kd.R_alloc | apply Kd.R_drewN | apply Kd.R_drew)); exact HO_3.out) hg hat)).2.1))); have n5_ := Aside0.mk (ho); clear HO_3; clear BK1959; clear HO1974; clear HB; clear HR1981; clear HO1977; have HO_3 := n0_; have BK1959 := n1_; have HO1974 := n2_; have HB := n3_; have HR1981 := n4_; have HO1984 := n5_; clear n0_ n1_ n2_ n3_ n4_ n5_; clear ho hb hg hat))
               go_roundg k2
               case measure => have := HK1.out; have := HK2.out; omega
               case rel => exact ⟨(y1982), (wrap64 (x10_1 + 1)), (by first | rfl | (simp; done) | (simp [*]; done)), H', ⟨by have := HK1.out; have := HK2.out; omega⟩, ⟨by (with_reducible repeat (first | apply Kd.R_alloc | apply Kd.R_drewN | apply Kd.R_drew)); exact Kd.R_mono HO1984.out (fun _ hk => trivial)⟩, ⟨zb⟩⟩
              ·rw [if_neg c20] at H
               exact absurd H (by simp)
             ·rw [if_neg c17] at H
              exact absurd H (by simp)
            ·rw [if_neg c16] at H
             exact absurd H (by simp)
           ·rw [if_neg c15] at H
            exact absurd H (by simp)
         ·rw [if_neg c8] at H
          exact absurd H (by simp)
        ·rw [if_neg c7] at H
         have c7b0 : decide (x6_2 < (x3_1.length : Int)) = false := decide_eq_false c7
         clear c7
         obtain ⟨y1985, hy1985⟩ : ∃ y_ : List (S26), y_ = (([] : List (S26))) := ⟨_, rfl⟩
         replace H : (if 0 ≤ x6_2 then (if x6_2 ≤ (x3_1.length : Int) then ((some (x3_1.take (x6_2 : Int).toNat : List (S26))).bind fun y1988 => (if y1985.length + y1988.length < 8796093022208 then ((some (y1985 ++ y1988 : List (S26))).bind fun y1992 => ((some (([(⟨((rd_T26 l0 x10_1).f0), ((rd_T26 l0 x10_1).f1)⟩ : S26)] : List (S26)) : List (S26))).bind fun y1995 => (if y1992.length + y1995.length < 8796093022208 then ((some (y1992 ++ y1995 : List (S26))).bind fun y1998 => ((some (x3_1.drop (x6_2 : Int).toNat : List (S26))).bind fun y2001 => (if y1998.length + y2001.length < 8796093022208 then (spec_bdSorted.l0 k2 (y1998 ++ y2001) l0 (l0.length : Int) (wrap64 (x10_1 + 1))) else (none)))) else (none)))) else (none))) else (none)) else (none)) = some r := by first | (rw [hy1985]; with_reducible exact H) | (have H2_ := (Option.bind_some _ _).symm.trans H; rw [hy1985]; with_reducible exact H2_) | (have H2_ := (Option.bind_some _ _).symm.trans H; with_reducible exact H2_) | with_reducible exact H | (rw [hy1985]; exact H) | exact H
         have Ny1985 := Aside0.mk hy1985
         clear hy1985
         by_cases c36 : 0 ≤ x6_2
         ·rw [if_pos c36] at H
          have c36b0 := eq_true c36
          have c36b1 : decide (0 ≤ x6_2) = true := decide_eq_true c36
          clear c36
          by_cases c37 : x6_2 ≤ (x3_1.length : Int)
          ·rw [if_pos c37] at H
           have c37b0 := eq_true c37
           have c37b1 : decide (x6_2 ≤ (x3_1.length : Int)) = true := decide_eq_true c37
           clear c37
           obtain ⟨y1988, hy1988⟩ : ∃ y_ : List (S26), y_ = (x3_1.take (x6_2 : Int).toNat) := ⟨_, rfl⟩
           replace H : (if y1985.length + y1988.length < 8796093022208 then ((some (y1985 ++ y1988 : List (S26))).bind fun y1992 => ((some (([(⟨((rd_T26 l0 x10_1).f0), ((rd_T26 l0 x10_1).f1)⟩ : S26)] : List (S26)) : List (S26))).bind fun y1995 => (if y1992.length + y1995.length < 8796093022208 then ((some (y1992 ++ y1995 : List (S26))).bind fun y1998 => ((some (x3_1.drop (x6_2 : Int).toNat : List (S26))).bind fun y2001 => (if y1998.length + y2001.length < 8796093022208 then (spec_bdSorted.l0 k2 (y1998 ++ y2001) l0 (l0.length : Int) (wrap64 (x10_1 + 1))) else (none)))) else (none)))) else (none)) = some r := by first | (rw [hy1988]; with_reducible exact H) | (have H2_ := (Option.bind_some _ _).symm.trans H; rw [hy1988]; with_reducible exact H2_) | (have H2_ := (Option.bind_some _ _).symm.trans H; with_reducible exact H2_) | with_reducible exact H | (rw [hy1988]; exact H) | exact H
           have Ny1988 := Aside0.mk hy1988
           clear hy1988
           by_cases c38 : y1985.length + y1988.length < 8796093022208
           ·rw [if_pos c38] at H
            have LMc38 := Aside0.mk c38
            clear c38
            obtain ⟨y1992, hy1992⟩ : ∃ y_ : List (S26), y_ = (y1985 ++ y1988) := ⟨_, rfl⟩
            replace H : ((some (([(⟨((rd_T26 l0 x10_1).f0), ((rd_T26 l0 x10_1).f1)⟩ : S26)] : List (S26)) : List (S26))).bind fun y1995 => (if y1992.length + y1995.length < 8796093022208 then ((some (y1992 ++ y1995 : List (S26))).bind fun y1998 => ((some (x3_1.drop (x6_2 : Int).toNat : List (S26))).bind fun y2001 => (if y1998.length + y2001.length < 8796093022208 then (spec_bdSorted.l0 k2 (y1998 ++ y2001) l0 (l0.length : Int) (wrap64 (x10_1 + 1))) else (none)))) else (none))) = some r := by first | (rw [hy1992]; with_reducible exact H) | (have H2_ := (Option.bind_some _ _).symm.trans H; rw [hy1992]; with_reducible exact H2_) | (have H2_ := (Option.bind_some _ _).symm.trans H; with_reducible exact H2_) | with_reducible exact H | (rw [hy1992]; exact H) | exact H
            have Ny1992 := Aside0.mk hy1992
            clear hy1992
            obtain ⟨y1995, hy1995⟩ : ∃ y_ : List (S26), y_ = (([(⟨((rd_T26 l0 x10_1).f0), ((rd_T26 l0 x10_1).f1)⟩ : S26)] : List (S26))) := ⟨_, rfl⟩
            replace H : (if y1992.length + y1995.length < 8796093022208 then ((some (y1992 ++ y1995 : List (S26))).bind fun y1998 => ((some (x3_1.drop (x6_2 : Int).toNat : List (S26))).bind fun y2001 => (if y1998.length + y2001.length < 8796093022208 then (spec_bdSorted.l0 k2 (y1998 ++ y2001) l0 (l0.length : Int) (wrap64 (x10_1 + 1))) else (none)))) else (none)) = some r := by first | (rw [hy1995]; with_reducible exact H) | (have H2_ := (Option.bind_some _ _).symm.trans H; rw [hy1995]; with_reducible exact H2_) | (have H2_ := (Option.bind_some _ _).symm.trans H; with_reducible exact H2_) | with_reducible exact H | (rw [hy1995]; exact H) | exact H
            have Ny1995 := Aside0.mk hy1995
            clear hy1995
            by_cases c39 : y1992.length + y1995.length < 8796093022208
            ·rw [if_pos c39] at H
             have LMc39 := Aside0.mk c39
             clear c39
             obtain ⟨y1998, hy1998⟩ : ∃ y_ : List (S26), y_ = (y1992 ++ y1995) := ⟨_, rfl⟩
             replace H : ((some (x3_1.drop (x6_2 : Int).toNat : List (S26))).bind fun y2001 => (if y1998.length + y2001.length < 8796093022208 then (spec_bdSorted.l0 k2 (y1998 ++ y2001) l0 (l0.length : Int) (wrap64 (x10_1 + 1))) else (none))) = some r := by first | (rw [hy1998]; with_reducible exact H) | (have H2_ := (Option.bind_some _ _).symm.trans H; rw [hy1998]; with_reducible exact H2_) | (have H2_ := (Option.bind_some _ _).symm.trans H; with_reducible exact H2_) | with_reducible exact H | (rw [hy1998]; exact H) | exact H
             have Ny1998 := Aside0.mk hy1998
             clear hy1998
             have c40b0 := eq_true (of_decide_eq_true (by first | (with_reducible assumption) | assumption) : 0 ≤ x6_2)
             have c41b0 := eq_true (of_decide_eq_true (by first | (with_reducible assumption) | assumption) : x6_2 ≤ (x3_1.length : Int))
             obtain ⟨y2001, hy2001⟩ : ∃ y_ : List (S26), y_ = (x3_1.drop (x6_2 : Int).toNat) := ⟨_, rfl⟩
             replace H : (if y1998.length + y2001.length < 8796093022208 then (spec_bdSorted.l0 k2 (y1998 ++ y2001) l0 (l0.length : Int) (wrap64 (x10_1 + 1))) else (none)) = some r := by first | (rw [hy2001]; with_reducible exact H) | (have H2_ := (Option.bind_some _ _).symm.trans H; rw [hy2001]; with_reducible exact H2_) | (have H2_ := (Option.bind_some _ _).symm.trans H; with_reducible exact H2_) | with_reducible exact H | (rw [hy2001]; exact H) | exact H
             have Ny2001 := Aside0.mk hy2001
             clear hy2001
             by_cases c42 : y1998.length + y2001.length < 8796093022208
             ·rw [if_pos c42] at H
              have LMc42 := Aside0.mk c42
              clear c42
              obtain ⟨y2005, hy2005⟩ : ∃ y_ : List (S26), y_ = (y1998 ++ y2001) := ⟨_, rfl⟩
              replace H : (spec_bdSorted.l0 k2 y2005 l0 (l0.length : Int) (wrap64 (x10_1 + 1))) = some r := by first | (rw [hy2005]; with_reducible exact H) | (have H2_ := (Option.bind_some _ _).symm.trans H; rw [hy2005]; with_reducible exact H2_) | (have H2_ := (Option.bind_some _ _).symm.trans H; with_reducible exact H2_) | with_reducible exact H | (rw [hy2005]; exact H) | exact H
              have Ny2005 := Aside0.mk hy2005
              clear hy2005
              have H' := Aside0.mk H
              clear H
              try go_wp2
              have n0_ := Aside0.mk (Kd.R_drew HO_3.out)
              have n1_ := Aside0.mk (blk_drew BK1959.out)
              have n2_ := Aside0.mk (below_drew1 HB.out)
              clear HO_3
              clear BK1959
              clear HB
              have HO_3 := n0_
              have BK1959 := n1_
              have HB := n2_
              clear n0_ n1_ n2_
              obtain ⟨Ao44, co44, eo44⟩ := Kd.R_slice HO_3.out
              (first | subst eo44 | (injection eo44 with f1_ f2_ f3_; have f4_ := f1_.symm; have f5_ := f3_.symm; clear f1_ f2_ f3_; subst f4_; subst f5_))
              refine start_ (n := 12) (S := fun w' => True) (ds := []) (zl 12 0) (by kernel_rfl) rfl rfl trivial (fun hHeld => ?_); refine with_tabW spec_bdSorted.tab6 spec_bdSorted.bits6 (fun HT_ HW_ => ?_)
              generalize wr.drew = w43 at HO_3 BK1959 HB hHeld ⊢
              refine zp 0 14 12 1 HT_ ?_
              refine zp 1 15 12 3 HT_ ?_
              refine zp 2 16 12 7 HT_ ?_
              refine zp 3 17 12 15 HT_ ?_
              refine zp 4 18 12 31 HT_ ?_
              refine pure_ (i := 5) (N := some 19) (v := undef) (a' := ?_) (zl 12 63) rfl rfl (any_of HT_.out (by kernel_rfl)) (fun _ _ _ h => h) (Or.inr ⟨by rfl, rfl⟩) ?_ ?_
              rotate_left
              ·exact zs
              refine pure_ (i := 6) (N := some 20) (v := undef) (a' := ?_) (zl 12 127) rfl rfl (any_of HT_.out (by kernel_rfl)) (fun _ _ _ h => h) (Or.inr ⟨by rfl, rfl⟩) ?_ ?_
              rotate_left
              ·exact zs
              refine pure_ (i := 7) (N := some 21) (v := undef) (a' := ?_) (zl 12 255) rfl rfl (any_of HT_.out (by kernel_rfl)) (fun _ _ _ h => h) (Or.inr ⟨by rfl, rfl⟩) ?_ ?_
              rotate_left
              ·exact zs
              refine pure_ (i := 8) (N := some 22) (v := undef) (a' := ?_) (zl 12 511) rfl rfl (any_of HT_.out (by kernel_rfl)) (fun _ _ _ h => h) (Or.inr ⟨by rfl, rfl⟩) ?_ ?_
              rotate_left
              ·exact zs
              refine pure_ (i := 9) (N := some 23) (v := undef) (a' := ?_) (zl 12 1023) rfl rfl (any_of HT_.out (by kernel_rfl)) (fun _ _ _ h => h) (Or.inr ⟨by rfl, rfl⟩) ?_ ?_
              rotate_left
              ·exact zs
              refine pure_ (i := 10) (N := some 24) (v := undef) (a' := ?_) (zl 12 2047) rfl rfl (any_of HT_.out (by kernel_rfl)) (fun _ _ _ h => h) (Or.inr ⟨by rfl, rfl⟩) ?_ ?_
              rotate_left
              ·exact zs
              refine zp 11 25 12 4095 HT_ ?_
              refine done_ (done_of HT_.out (by kernel_rfl)) ?_
              try go_wp2
              have n0_ := Aside0.mk (Kd.R_drew HO_3.out)
              have n1_ := Aside0.mk (blk_drew BK1959.out)
              have n2_ := Aside0.mk (below_drew1 HB.out)
              clear HO_3
              clear BK1959
              clear HB
              have HO_3 := n0_
              have BK1959 := n1_
              have HB := n2_
              clear n0_ n1_ n2_
              have q46 : (x6_2 : Int) ≤ ((x3_1.length : Int) : Int) := of_decide_eq_true (by first | (with_reducible assumption) | assumption)
              obtain ⟨i046, hi046, _, hsz46, _⟩ := info_parts info26
              have hroom46 : x3_1.length ≤ co44 := (Kd.R_reads' HO_3.out).2.1
              have hC46 : Kd.C k26 _ Ao44 x3_1.length x3_1 := (Kd.R_reads' HO_3.out).2.2
              have hcut46 := cut_to (P := Try.prog) 24 26 .i64 Try.underlying24 hi046 Ao44 x3_1.length co44 x6_2 (of_decide_eq_true (by first | (with_reducible assumption) | assumption)) q46 hroom46
              have hr46 := Kd.C_take (m := (x6_2 : Int).toNat) hC46 (by omega)
              have hy46 : y1988.length = (x6_2 : Int).toNat := (by rw [Ny1988.out, List.length_take]; omega)
              rw [← Ny1988.out] at hr46
              rw [← hy46] at hcut46
              have HR1991 := Aside0.mk hr46
              have HC1991 := Aside0.mk (show y1988.length ≤ co44 from by omega)
              clear hr46 hC46 hroom46 hi046 hsz46
              have KY46 := Aside0.mk hy46
              clear hy46
              have KL46 := Aside0.mk (show (x6_2 : Int).toNat ≤ x3_1.length from by omega)
              replace q46 := eq_true q46
              refine start_ (n := 9) (S := fun w' => w'.cell? ⟨gb1959, 0, none⟩ = some (.int .i64 ((rd_T26 l0 x10_1).f0)) ∧ w'.cell? ⟨gb1959, 1, none⟩ = some (.int .i64 ((rd_T26 l0 x10_1).f1))) (ds := []) (zl 9 0) (by kernel_rfl) rfl rfl ⟨(blk_cell BK1959.out 0).trans rfl, (blk_cell BK1959.out 1).trans rfl⟩ (fun hHeld => ?_); refine with_tabW spec_bdSorted.tab8 spec_bdSorted.bits8 (fun HT_ HW_ => ?_)
              generalize w43.drew = w45 at HO_3 BK1959 HB HR1991 hHeld ⊢
              refine zp 1 29 9 2 HT_ ?_
              refine zp 2 30 9 6 HT_ ?_
              refine zp 3 31 9 14 HT_ ?_
              refine take_ (i := 5) (N := some 33) (v := ?_) (a' := ?_) (zl 9 46) rfl rfl (take_ofW HT_.out HW_.out (by kernel_rfl)) (fun _ _ _ h => h) (Or.inl ⟨by rfl, ?_⟩) hHeld ?_ ?_
              rotate_left
              ·rintro w' ⟨s0, s1⟩
               go_simp
               with_reducible rfl
              rotate_left
              ·exact zs
              refine join_ (σ := Value × Value × Value) 2 (zl 9 127) (fun s_ => [(28, s_.1), (32, s_.2.1), (34, s_.2.2)]) (fun s_ w' => (w'.cell? ⟨gb1959, 0, none⟩ = some (.int .i64 ((rd_T26 l0 x10_1).f0)) ∧ w'.cell? ⟨gb1959, 1, none⟩ = some (.int .i64 ((rd_T26 l0 x10_1).f1))) ∧ (Kd.R k26 26 w' w.heap.size (fun k_ => some k_ ≠ (s_.2.2 : Value).ownBlock ∧ some k_ ≠ (.slice Ao44 x3_1.length co44 : Value).ownBlock ∧ k_ ≠ gb1959) s_.2.1 y1992) ∧ (Kd.R k26 26 w' w.heap.size (fun k_ => some k_ ≠ (s_.2.1 : Value).ownBlock ∧ some k_ ≠ (.slice Ao44 x3_1.length co44 : Value).ownBlock ∧ k_ ≠ gb1959) s_.2.2 y1995) ∧ (Kd.R k26 26 w' w.heap.size (fun k_ => some k_ ≠ (s_.2.1 : Value).ownBlock ∧ some k_ ≠ (s_.2.2 : Value).ownBlock ∧ k_ ≠ gb1959) (.slice Ao44 x3_1.length co44) x3_1) ∧ (w'.heap[gb1959]? = some (.cells #[.int .i64 ((rd_T26 l0 x10_1).f0), .int .i64 ((rd_T26 l0 x10_1).f1)] 26 (0, 0))) ∧ (Below w.heap.size w w')) ?_ ?_
              rotate_left
              ·intro hCont
               refine two_ (i := 0) (j := 6) (Ni := some 28) (Nj := some 34) (zl 9 47) (zl 9 110) rfl rfl rfl rfl (two_of HT_.out (by kernel_rfl)) (by decide) (by decide) (fun K hK => ?_) (fun K hK => ?_)
               ·skip
                refine Kd.R_lit_step k26 _ 26 ?hg (N := 28) ?hd (xs := ([] : List (S26))) (inner := []) (ok := fun _ => True) (okp := fun _ => True) ?hr ?hp (fun _ hk => hk) trivial (Below.refl _ _) (Nat.le_refl _) (by simp) ?_; (case hd => rfl); (case hg => rfl); (case hr => first | (go_simp; done) | (go_simp; rfl)); (case hp => exact (Reps.none _ _))
                intro v1986 w47 ho48 hb hg_ hnew_
                clear hg_ hnew_
                (first | rw [← Ny1985.out] at ho48 | (simp only [Int.reduceToNat] at ho48; rw [← Ny1985.out] at ho48))
                have n0_ := Aside0.mk (Kd.R_elder' (by (with_reducible repeat (first | apply Kd.R_alloc | apply Kd.R_drewN | apply Kd.R_drew)); exact HO_3.out) (Kd.R_base ho48) hb)
                have n1_ := Aside0.mk (Kd.R_lower (Kd.R_newB (Kd.R_new' ho48 (Kd.R_lt (by (with_reducible repeat (first | apply Kd.R_alloc | apply Kd.R_drewN | apply Kd.R_drew)); exact HO_3.out))) (g := gb1959) (o := .cells #[.int .i64 ((rd_T26 l0 x10_1).f0), .int .i64 ((rd_T26 l0 x10_1).f1)] 26 (0, 0)) zk) (below_size zb))
                have n2_ := Aside0.mk (blk_below (g := gb1959) (o := .cells #[.int .i64 ((rd_T26 l0 x10_1).f0), .int .i64 ((rd_T26 l0 x10_1).f1)] 26 (0, 0)) zk hb)
                have n3_ := Aside0.mk (Kd.C_below (by repeat (first | (with_reducible exact HR1991.out) | (with_reducible refine Kd.C_alloc ?_ _) | (with_reducible refine Kd.C_drewN ?_ _) | (with_reducible refine Kd.C_drew ?_) | exact HR1991.out)) hb)
                have n4_ := Aside0.mk (below_step zb hb)
                clear HO_3
                clear BK1959
                clear HR1991
                clear HB
                have HO_3 := n0_
                have HO1987 := n1_
                have BK1959 := n2_
                have HR1991 := n3_
                have HB := n4_
                clear n0_ n1_ n2_ n3_ n4_
                clear hb ho48
                refine hK.out _ _ ⟨(blk_cell BK1959.out 0).trans rfl, (blk_cell BK1959.out 1).trans rfl⟩ (fun hHeld => ?_)
                clear hK K
                refine norm_ (a' := ?_) ?_ ?_
                rotate_left
                ·show Act.put _ (some 28) _ = _
                 exact zs
                refine two_ (i := 4) (j := 6) (Ni := some 32) (Nj := some 34) (zl 9 63) (zl 9 111) rfl rfl rfl rfl (two_of HT_.out (by kernel_rfl)) (by decide) (by decide) (fun K hK => ?_) (fun K hK => ?_)
                ·skip
                 refine Kd.R_append_rows_step k26 (w0 := w) w.heap.size (by rfl) (.tmp 28) (.tmp 31) 24 26 (.agg #[(.int .i64 0), (.int .i64 0)]) 16 rfl Try.underlying24 info26 rfl (by decide) (by omega) v1986 y1985 y1988 _ _ _ (fun k_ => some k_ ≠ (.slice Ao44 x3_1.length co44 : Value).ownBlock ∧ k_ ≠ gb1959) (fun _ => False) rfl rfl ?aO ?aR (fun _ _ h => h) (fun _ h => h.elim) ?aF ?aB ?aS ?aL ?_
                 (case aR => repeat (first | exact (by repeat (first | (with_reducible exact HR1991.out) | (with_reducible refine Kd.C_alloc ?_ _) | (with_reducible refine Kd.C_drewN ?_ _) | (with_reducible refine Kd.C_drew ?_) | exact HR1991.out)) | (with_reducible refine Kd.C_alloc ?_ _) | (with_reducible refine Kd.C_drewN ?_ _) | (with_reducible refine Kd.C_drew ?_)))
                 (case aB => exact zb)
                 (case aF => exact (fun k_ hk => ⟨Kd.fresh' (Kd.R_lt (by (with_reducible repeat (first | apply Kd.R_alloc | apply Kd.R_drewN | apply Kd.R_drew)); exact HO_3.out)) k_ hk, Kd.freshB (g := gb1959) (o := .cells #[.int .i64 ((rd_T26 l0 x10_1).f0), .int .i64 ((rd_T26 l0 x10_1).f1)] 26 (0, 0)) zk k_ hk⟩))
                 (case aO => exact (by (with_reducible repeat (first | apply Kd.R_alloc | apply Kd.R_drewN | apply Kd.R_drew)); exact Kd.R_mono HO1987.out (fun _ hk => ⟨hk.1.2, hk.2⟩)))
                 (case aS => exact (below_size zb))
                 (case aL => have := LMc38.out; omega)
                 intro v1993 w49 ho hb hg hat
                 rw [← Ny1992.out] at ho
                 have n0_ := Aside0.mk (Kd.R_after (ok := (fun k_ => k_ ≠ gb1959)) (by (with_reducible repeat (first | apply Kd.R_alloc | apply Kd.R_drewN | apply Kd.R_drew)); exact HO_3.out) hg hat)
                 have n1_ := Aside0.mk (blk_grown (g := gb1959) (o := .cells #[.int .i64 ((rd_T26 l0 x10_1).f0), .int .i64 ((rd_T26 l0 x10_1).f1)] 26 (0, 0)) zk hg (Kd.R_away HO1987.out (fun _ hk => hk.2)))
                 have n2_ := Aside0.mk (hb)
                 have n3_ := Aside0.mk ((show Kd.C k26 w49 Ao44 y1988.length y1988 from by rw [Ny1988.out]; exact Kd.C_take (m := (x6_2 : Int).toNat) ((Kd.R_reads' (Kd.R_after (ok := (fun k_ => k_ ≠ gb1959)) (by (with_reducible repeat (first | apply Kd.R_alloc | apply Kd.R_drewN | apply Kd.R_drew)); exact HO_3.out) hg hat)).2.2) KL46.out))
                 have n4_ := Aside0.mk (ho)
                 clear HO_3
                 clear BK1959
                 clear HB
                 clear HR1991
                 clear HO1987
                 have HO_3 := n0_
                 have BK1959 := n1_
                 have HB := n2_
                 have HR1991 := n3_
                 have HO1994 := n4_
                 clear n0_ n1_ n2_ n3_ n4_
                 clear ho hb hg hat
                 refine hK.out _ _ ⟨(blk_cell BK1959.out 0).trans rfl, (blk_cell BK1959.out 1).trans rfl⟩ (fun hHeld => ?_)
                 clear hK K
                 refine norm_ (a' := ?_) ?_ ?_
                 rotate_left
                 ·show Act.put _ (some 32) _ = _
                  exact zs
                 refine one_ (i := 6) (N := some 34) (zl 9 127) rfl rfl (one_of HT_.out (by kernel_rfl)) (by decide) (fun K hK => ?_)
                 refine Kd.R_lit_step k26 _ 26 ?hg (N := 34) ?hd (xs := ([(⟨((rd_T26 l0 x10_1).f0), ((rd_T26 l0 x10_1).f1)⟩ : S26)] : List (S26))) (inner := [.int .i64 ((rd_T26 l0 x10_1).f0), .int .i64 ((rd_T26 l0 x10_1).f1)]) (ok := fun _ => True) (okp := fun _ => True) ?hr ?hp (fun _ hk => hk) trivial (Below.refl _ _) (Nat.le_refl _) (by simp) ?_; (case hd => rfl); (case hg => rfl); (case hr => first | (go_simp; done) | (go_simp; rfl)); (case hp => exact (Reps.c2 (show Kd.M k26 _ _ _ (⟨((rd_T26 l0 x10_1).f0), ((rd_T26 l0 x10_1).f1)⟩ : S26) [.int .i64 ((rd_T26 l0 x10_1).f0), .int .i64 ((rd_T26 l0 x10_1).f1)] from (k26_mkM _ _ _ (⟨((rd_T26 l0 x10_1).f0), ((rd_T26 l0 x10_1).f1)⟩ : S26) )) (Reps.none _ _)))
                 intro v1996 w50 ho51 hb hg_ hnew_
                 clear hg_ hnew_
                 (first | rw [← Ny1995.out] at ho51 | (simp only [Int.reduceToNat] at ho51; rw [← Ny1995.out] at ho51))
                 have n0_ := Aside0.mk (Kd.R_elder' (by (with_reducible repeat (first | apply Kd.R_alloc | apply Kd.R_drewN | apply Kd.R_drew)); exact HO_3.out) (Kd.R_base ho51) hb)
                 have n1_ := Aside0.mk (Kd.R_elder' (by (with_reducible repeat (first | apply Kd.R_alloc | apply Kd.R_drewN | apply Kd.R_drew)); exact HO1994.out) (Kd.R_base ho51) hb)
                 have n2_ := Aside0.mk (Kd.R_lower (Kd.R_newB (Kd.R_new' (Kd.R_new' ho51 (Kd.R_lt (by (with_reducible repeat (first | apply Kd.R_alloc | apply Kd.R_drewN | apply Kd.R_drew)); exact HO_3.out))) (Kd.R_lt (by (with_reducible repeat (first | apply Kd.R_alloc | apply Kd.R_drewN | apply Kd.R_drew)); exact HO1994.out))) (g := gb1959) (o := .cells #[.int .i64 ((rd_T26 l0 x10_1).f0), .int .i64 ((rd_T26 l0 x10_1).f1)] 26 (0, 0)) zk) (below_size zb))
                 have n3_ := Aside0.mk (blk_below (g := gb1959) (o := .cells #[.int .i64 ((rd_T26 l0 x10_1).f0), .int .i64 ((rd_T26 l0 x10_1).f1)] 26 (0, 0)) zk hb)
                 have n4_ := Aside0.mk (Kd.C_below (by repeat (first | (with_reducible exact HR1991.out) | (with_reducible refine Kd.C_alloc ?_ _) | (with_reducible refine Kd.C_drewN ?_ _) | (with_reducible refine Kd.C_drew ?_) | exact HR1991.out)) hb)
                 have n5_ := Aside0.mk (below_step zb hb)
                 clear HO_3
                 clear HO1994
                 clear BK1959
                 clear HR1991
                 clear HB
                 have HO_3 := n0_
                 have HO1994 := n1_
                 have HO1997 := n2_
                 have BK1959 := n3_
                 have HR1991 := n4_
                 have HB := n5_
                 clear n0_ n1_ n2_ n3_ n4_ n5_
                 clear hb ho51
                 refine hK.out _ _ ⟨(blk_cell BK1959.out 0).trans rfl, (blk_cell BK1959.out 1).trans rfl⟩ (fun hHeld => ?_)
                 clear hK K
                 refine norm_ (a' := ?_) ?_ ?_
                 rotate_left
                 ·show Act.put _ (some 34) _ = _
                  exact zs
                 exact norm_ (by simp only [putAll, Act.put, List.setIfInBounds_toArray, List.set_cons_zero, List.set_cons_succ]) (hCont (v1986, v1993, v1996) _ ⟨hHeld, (by (with_reducible repeat (first | apply Kd.R_alloc | apply Kd.R_drewN | apply Kd.R_drew)); exact Kd.R_mono HO1994.out (fun _ hk => ⟨hk.2, ⟨hk.1.1, hk.1.2⟩⟩)), (by (with_reducible repeat (first | apply Kd.R_alloc | apply Kd.R_drewN | apply Kd.R_drew)); exact Kd.R_mono HO1997.out (fun _ hk => ⟨hk.1.2, ⟨hk.1.1.2, hk.2⟩⟩)), (by (with_reducible repeat (first | apply Kd.R_alloc | apply Kd.R_drewN | apply Kd.R_drew)); exact Kd.R_mono HO_3.out (fun _ hk => ⟨hk.1.2, ⟨hk.2, hk.1.1⟩⟩)), zk, zb⟩)
                ·skip
                 refine Kd.R_lit_step k26 _ 26 ?hg (N := 34) ?hd (xs := ([(⟨((rd_T26 l0 x10_1).f0), ((rd_T26 l0 x10_1).f1)⟩ : S26)] : List (S26))) (inner := [.int .i64 ((rd_T26 l0 x10_1).f0), .int .i64 ((rd_T26 l0 x10_1).f1)]) (ok := fun _ => True) (okp := fun _ => True) ?hr ?hp (fun _ hk => hk) trivial (Below.refl _ _) (Nat.le_refl _) (by simp) ?_; (case hd => rfl); (case hg => rfl); (case hr => first | (go_simp; done) | (go_simp; rfl)); (case hp => exact (Reps.c2 (show Kd.M k26 _ _ _ (⟨((rd_T26 l0 x10_1).f0), ((rd_T26 l0 x10_1).f1)⟩ : S26) [.int .i64 ((rd_T26 l0 x10_1).f0), .int .i64 ((rd_T26 l0 x10_1).f1)] from (k26_mkM _ _ _ (⟨((rd_T26 l0 x10_1).f0), ((rd_T26 l0 x10_1).f1)⟩ : S26) )) (Reps.none _ _)))
                 intro v1996 w49 ho50 hb hg_ hnew_
                 clear hg_ hnew_
                 (first | rw [← Ny1995.out] at ho50 | (simp only [Int.reduceToNat] at ho50; rw [← Ny1995.out] at ho50))
                 have n0_ := Aside0.mk (Kd.R_elder' (by (with_reducible repeat (first | apply Kd.R_alloc | apply Kd.R_drewN | apply Kd.R_drew)); exact HO_3.out) (Kd.R_base ho50) hb)
                 have n1_ := Aside0.mk (Kd.R_elder' (by (with_reducible repeat (first | apply Kd.R_alloc | apply Kd.R_drewN | apply Kd.R_drew)); exact HO1987.out) (Kd.R_base ho50) hb)
                 have n2_ := Aside0.mk (Kd.R_lower (Kd.R_newB (Kd.R_new' (Kd.R_new' ho50 (Kd.R_lt (by (with_reducible repeat (first | apply Kd.R_alloc | apply Kd.R_drewN | apply Kd.R_drew)); exact HO_3.out))) (Kd.R_lt (by (with_reducible repeat (first | apply Kd.R_alloc | apply Kd.R_drewN | apply Kd.R_drew)); exact HO1987.out))) (g := gb1959) (o := .cells #[.int .i64 ((rd_T26 l0 x10_1).f0), .int .i64 ((rd_T26 l0 x10_1).f1)] 26 (0, 0)) zk) (below_size zb))
                 have n3_ := Aside0.mk (blk_below (g := gb1959) (o := .cells #[.int .i64 ((rd_T26 l0 x10_1).f0), .int .i64 ((rd_T26 l0 x10_1).f1)] 26 (0, 0)) zk hb)
                 have n4_ := Aside0.mk (Kd.C_below (by repeat (first | (with_reducible exact HR1991.out) | (with_reducible refine Kd.C_alloc ?_ _) | (with_reducible refine Kd.C_drewN ?_ _) | (with_reducible refine Kd.C_drew ?_) | exact HR1991.out)) hb)
                 have n5_ := Aside0.mk (below_step zb hb)
                 clear HO_3
                 clear HO1987
                 clear BK1959
                 clear HR1991
                 clear HB
                 have HO_3 := n0_
                 have HO1987 := n1_
                 have HO1997 := n2_
                 have BK1959 := n3_
                 have HR1991 := n4_
                 have HB := n5_
                 clear n0_ n1_ n2_ n3_ n4_ n5_
                 clear hb ho50
                 refine hK.out _ _ ⟨(blk_cell BK1959.out 0).trans rfl, (blk_cell BK1959.out 1).trans rfl⟩ (fun hHeld => ?_)
                 clear hK K
                 refine norm_ (a' := ?_) ?_ ?_
                 rotate_left
                 ·show Act.put _ (some 34) _ = _
                  exact zs
                 refine one_ (i := 4) (N := some 32) (zl 9 127) rfl rfl (one_of HT_.out (by kernel_rfl)) (by decide) (fun K hK => ?_)
                 refine Kd.R_append_rows_step k26 (w0 := w) w.heap.size (by rfl) (.tmp 28) (.tmp 31) 24 26 (.agg #[(.int .i64 0), (.int .i64 0)]) 16 rfl Try.underlying24 info26 rfl (by decide) (by omega) v1986 y1985 y1988 _ _ _ (fun k_ => some k_ ≠ (.slice Ao44 x3_1.length co44 : Value).ownBlock ∧ some k_ ≠ (v1996 : Value).ownBlock ∧ k_ ≠ gb1959) (fun _ => False) rfl rfl ?aO ?aR (fun _ _ h => h) (fun _ h => h.elim) ?aF ?aB ?aS ?aL ?_
                 (case aR => repeat (first | exact (by repeat (first | (with_reducible exact HR1991.out) | (with_reducible refine Kd.C_alloc ?_ _) | (with_reducible refine Kd.C_drewN ?_ _) | (with_reducible refine Kd.C_drew ?_) | exact HR1991.out)) | (with_reducible refine Kd.C_alloc ?_ _) | (with_reducible refine Kd.C_drewN ?_ _) | (with_reducible refine Kd.C_drew ?_)))
                 (case aB => exact zb)
                 (case aF => exact (fun k_ hk => ⟨Kd.fresh' (Kd.R_lt (by (with_reducible repeat (first | apply Kd.R_alloc | apply Kd.R_drewN | apply Kd.R_drew)); exact HO_3.out)) k_ hk, Kd.fresh' (Kd.R_lt (by (with_reducible repeat (first | apply Kd.R_alloc | apply Kd.R_drewN | apply Kd.R_drew)); exact HO1997.out)) k_ hk, Kd.freshB (g := gb1959) (o := .cells #[.int .i64 ((rd_T26 l0 x10_1).f0), .int .i64 ((rd_T26 l0 x10_1).f1)] 26 (0, 0)) zk k_ hk⟩))
                 (case aO => exact (by (with_reducible repeat (first | apply Kd.R_alloc | apply Kd.R_drewN | apply Kd.R_drew)); exact Kd.R_mono HO1987.out (fun _ hk => ⟨hk.1.1.2, ⟨hk.2, hk.1.2⟩⟩)))
                 (case aS => exact (below_size zb))
                 (case aL => have := LMc38.out; omega)
                 intro v1993 w51 ho hb hg hat
                 rw [← Ny1992.out] at ho
                 have n0_ := Aside0.mk (Kd.R_after (ok := (fun k_ => some k_ ≠ (v1996 : Value).ownBlock ∧ k_ ≠ gb1959)) (by (with_reducible repeat (first | apply Kd.R_alloc | apply Kd.R_drewN | apply Kd.R_drew)); exact Kd.R_mono HO_3.out (fun _ hk => ⟨⟨hk.2, hk.1.1⟩, hk.1.2⟩)) hg hat)
                 have n1_ := Aside0.mk (blk_grown (g := gb1959) (o := .cells #[.int .i64 ((rd_T26 l0 x10_1).f0), .int .i64 ((rd_T26 l0 x10_1).f1)] 26 (0, 0)) zk hg (Kd.R_away HO1987.out (fun _ hk => hk.1.2)))
                 have n2_ := Aside0.mk (Kd.R_after (ok := (fun k_ => some k_ ≠ (.slice Ao44 x3_1.length co44 : Value).ownBlock ∧ k_ ≠ gb1959)) (by (with_reducible repeat (first | apply Kd.R_alloc | apply Kd.R_drewN | apply Kd.R_drew)); exact Kd.R_mono HO1997.out (fun _ hk => ⟨⟨hk.1.1.2, hk.2⟩, hk.1.2⟩)) hg hat)
                 have n3_ := Aside0.mk (hb)
                 have n4_ := Aside0.mk ((show Kd.C k26 w51 Ao44 y1988.length y1988 from by rw [Ny1988.out]; exact Kd.C_take (m := (x6_2 : Int).toNat) ((Kd.R_reads' (Kd.R_after (ok := (fun k_ => some k_ ≠ (v1996 : Value).ownBlock ∧ k_ ≠ gb1959)) (by (with_reducible repeat (first | apply Kd.R_alloc | apply Kd.R_drewN | apply Kd.R_drew)); exact Kd.R_mono HO_3.out (fun _ hk => ⟨⟨hk.2, hk.1.1⟩, hk.1.2⟩)) hg hat)).2.2) KL46.out))
                 have n5_ := Aside0.mk (ho)
                 clear HO_3
                 clear BK1959
                 clear HO1997
                 clear HB
                 clear HR1991
                 clear HO1987
                 have HO_3 := n0_
                 have BK1959 := n1_
                 have HO1997 := n2_
                 have HB := n3_
                 have HR1991 := n4_
                 have HO1994 := n5_
                 clear n0_ n1_ n2_ n3_ n4_ n5_
                 clear ho hb hg hat
                 refine hK.out _ _ ⟨(blk_cell BK1959.out 0).trans rfl, (blk_cell BK1959.out 1).trans rfl⟩ (fun hHeld => ?_)
                 clear hK K
                 refine norm_ (a' := ?_) ?_ ?_
                 rotate_left
                 ·show Act.put _ (some 32) _ = _
                  exact zs
                 exact norm_ (by simp only [putAll, Act.put, List.setIfInBounds_toArray, List.set_cons_zero, List.set_cons_succ]) (hCont (v1986, v1993, v1996) _ ⟨hHeld, (by (with_reducible repeat (first | apply Kd.R_alloc | apply Kd.R_drewN | apply Kd.R_drew)); exact Kd.R_mono HO1994.out (fun _ hk => ⟨hk.2.1, ⟨hk.1, hk.2.2⟩⟩)), (by (with_reducible repeat (first | apply Kd.R_alloc | apply Kd.R_drewN | apply Kd.R_drew)); exact Kd.R_mono HO1997.out (fun _ hk => ⟨hk.2, ⟨hk.1.1, hk.1.2⟩⟩)), (by (with_reducible repeat (first | apply Kd.R_alloc | apply Kd.R_drewN | apply Kd.R_drew)); exact Kd.R_mono HO_3.out (fun _ hk => ⟨hk.2, ⟨hk.1.1, hk.1.2⟩⟩)), zk, zb⟩)
               ·skip
                refine Kd.R_lit_step k26 _ 26 ?hg (N := 34) ?hd (xs := ([(⟨((rd_T26 l0 x10_1).f0), ((rd_T26 l0 x10_1).f1)⟩ : S26)] : List (S26))) (inner := [.int .i64 ((rd_T26 l0 x10_1).f0), .int .i64 ((rd_T26 l0 x10_1).f1)]) (ok := fun _ => True) (okp := fun _ => True) ?hr ?hp (fun _ hk => hk) trivial (Below.refl _ _) (Nat.le_refl _) (by simp) ?_; (case hd => rfl); (case hg => rfl); (case hr => first | (go_simp; done) | (go_simp; rfl)); (case hp => exact (Reps.c2 (show Kd.M k26 _ _ _ (⟨((rd_T26 l0 x10_1).f0), ((rd_T26 l0 x10_1).f1)⟩ : S26) [.int .i64 ((rd_T26 l0 x10_1).f0), .int .i64 ((rd_T26 l0 x10_1).f1)] from (k26_mkM _ _ _ (⟨((rd_T26 l0 x10_1).f0), ((rd_T26 l0 x10_1).f1)⟩ : S26) )) (Reps.none _ _)))
                intro v1996 w47 ho48 hb hg_ hnew_
                clear hg_ hnew_
                (first | rw [← Ny1995.out] at ho48 | (simp only [Int.reduceToNat] at ho48; rw [← Ny1995.out] at ho48))
                have n0_ := Aside0.mk (Kd.R_elder' (by (with_reducible repeat (first | apply Kd.R_alloc | apply Kd.R_drewN | apply Kd.R_drew)); exact HO_3.out) (Kd.R_base ho48) hb)
                have n1_ := Aside0.mk (Kd.R_lower (Kd.R_newB (Kd.R_new' ho48 (Kd.R_lt (by (with_reducible repeat (first | apply Kd.R_alloc | apply Kd.R_drewN | apply Kd.R_drew)); exact HO_3.out))) (g := gb1959) (o := .cells #[.int .i64 ((rd_T26 l0 x10_1).f0), .int .i64 ((rd_T26 l0 x10_1).f1)] 26 (0, 0)) zk) (below_size zb))
                have n2_ := Aside0.mk (blk_below (g := gb1959) (o := .cells #[.int .i64 ((rd_T26 l0 x10_1).f0), .int .i64 ((rd_T26 l0 x10_1).f1)] 26 (0, 0)) zk hb)
                have n3_ := Aside0.mk (Kd.C_below (by repeat (first | (with_reducible exact HR1991.out) | (with_reducible refine Kd.C_alloc ?_ _) | (with_reducible refine Kd.C_drewN ?_ _) | (with_reducible refine Kd.C_drew ?_) | exact HR1991.out)) hb)
                have n4_ := Aside0.mk (below_step zb hb)
                clear HO_3
                clear BK1959
                clear HR1991
                clear HB
                have HO_3 := n0_
                have HO1997 := n1_
                have BK1959 := n2_
                have HR1991 := n3_
                have HB := n4_
                clear n0_ n1_ n2_ n3_ n4_
                clear hb ho48
                refine hK.out _ _ ⟨(blk_cell BK1959.out 0).trans rfl, (blk_cell BK1959.out 1).trans rfl⟩ (fun hHeld => ?_)
                clear hK K
                refine norm_ (a' := ?_) ?_ ?_
                rotate_left
                ·show Act.put _ (some 34) _ = _
                 exact zs
                refine one_ (i := 0) (N := some 28) (zl 9 111) rfl rfl (one_of HT_.out (by kernel_rfl)) (by decide) (fun K hK => ?_)
                refine Kd.R_lit_step k26 _ 26 ?hg (N := 28) ?hd (xs := ([] : List (S26))) (inner := []) (ok := fun _ => True) (okp := fun _ => True) ?hr ?hp (fun _ hk => hk) trivial (Below.refl _ _) (Nat.le_refl _) (by simp) ?_; (case hd => rfl); (case hg => rfl); (case hr => first | (go_simp; done) | (go_simp; rfl)); (case hp => exact (Reps.none _ _))
                intro v1986 w49 ho50 hb hg_ hnew_
                clear hg_ hnew_
                (first | rw [← Ny1985.out] at ho50 | (simp only [Int.reduceToNat] at ho50; rw [← Ny1985.out] at ho50))
                have n0_ := Aside0.mk (Kd.R_elder' (by (with_reducible repeat (first | apply Kd.R_alloc | apply Kd.R_drewN | apply Kd.R_drew)); exact HO_3.out) (Kd.R_base ho50) hb)
                have n1_ := Aside0.mk (Kd.R_elder' (by (with_reducible repeat (first | apply Kd.R_alloc | apply Kd.R_drewN | apply Kd.R_drew)); exact HO1997.out) (Kd.R_base ho50) hb)
                have n2_ := Aside0.mk (Kd.R_lower (Kd.R_newB (Kd.R_new' (Kd.R_new' ho50 (Kd.R_lt (by (with_reducible repeat (first | apply Kd.R_alloc | apply Kd.R_drewN | apply Kd.R_drew)); exact HO_3.out))) (Kd.R_lt (by (with_reducible repeat (first | apply Kd.R_alloc | apply Kd.R_drewN | apply Kd.R_drew)); exact HO1997.out))) (g := gb1959) (o := .cells #[.int .i64 ((rd_T26 l0 x10_1).f0), .int .i64 ((rd_T26 l0 x10_1).f1)] 26 (0, 0)) zk) (below_size zb))
                have n3_ := Aside0.mk (blk_below (g := gb1959) (o := .cells #[.int .i64 ((rd_T26 l0 x10_1).f0), .int .i64 ((rd_T26 l0 x10_1).f1)] 26 (0, 0)) zk hb)
                have n4_ := Aside0.mk (Kd.C_below (by repeat (first | (with_reducible exact HR1991.out) | (with_reducible refine Kd.C_alloc ?_ _) | (with_reducible refine Kd.C_drewN ?_ _) | (with_reducible refine Kd.C_drew ?_) | exact HR1991.out)) hb)
                have n5_ := Aside0.mk (below_step zb hb)
                clear HO_3
                clear HO1997
                clear BK1959
                clear HR1991
                clear HB
                have HO_3 := n0_
                have HO1997 := n1_
                have HO1987 := n2_
                have BK1959 := n3_
                have HR1991 := n4_
                have HB := n5_
                clear n0_ n1_ n2_ n3_ n4_ n5_
                clear hb ho50
                refine hK.out _ _ ⟨(blk_cell BK1959.out 0).trans rfl, (blk_cell BK1959.out 1).trans rfl⟩ (fun hHeld => ?_)
                clear hK K
                refine norm_ (a' := ?_) ?_ ?_
                rotate_left
                ·show Act.put _ (some 28) _ = _
                 exact zs
                refine one_ (i := 4) (N := some 32) (zl 9 127) rfl rfl (one_of HT_.out (by kernel_rfl)) (by decide) (fun K hK => ?_)
                refine Kd.R_append_rows_step k26 (w0 := w) w.heap.size (by rfl) (.tmp 28) (.tmp 31) 24 26 (.agg #[(.int .i64 0), (.int .i64 0)]) 16 rfl Try.underlying24 info26 rfl (by decide) (by omega) v1986 y1985 y1988 _ _ _ (fun k_ => some k_ ≠ (.slice Ao44 x3_1.length co44 : Value).ownBlock ∧ some k_ ≠ (v1996 : Value).ownBlock ∧ k_ ≠ gb1959) (fun _ => False) rfl rfl ?aO ?aR (fun _ _ h => h) (fun _ h => h.elim) ?aF ?aB ?aS ?aL ?_
                (case aR => repeat (first | exact (by repeat (first | (with_reducible exact HR1991.out) | (with_reducible refine Kd.C_alloc ?_ _) | (with_reducible refine Kd.C_drewN ?_ _) | (with_reducible refine Kd.C_drew ?_) | exact HR1991.out)) | (with_reducible refine Kd.C_alloc ?_ _) | (with_reducible refine Kd.C_drewN ?_ _) | (with_reducible refine Kd.C_drew ?_)))
                (case aB => exact zb)
                (case aF => exact (fun k_ hk => ⟨Kd.fresh' (Kd.R_lt (by (with_reducible repeat (first | apply Kd.R_alloc | apply Kd.R_drewN | apply Kd.R_drew)); exact HO_3.out)) k_ hk, Kd.fresh' (Kd.R_lt (by (with_reducible repeat (first | apply Kd.R_alloc | apply Kd.R_drewN | apply Kd.R_drew)); exact HO1997.out)) k_ hk, Kd.freshB (g := gb1959) (o := .cells #[.int .i64 ((rd_T26 l0 x10_1).f0), .int .i64 ((rd_T26 l0 x10_1).f1)] 26 (0, 0)) zk k_ hk⟩))
                (case aO => exact (by (with_reducible repeat (first | apply Kd.R_alloc | apply Kd.R_drewN | apply Kd.R_drew)); exact Kd.R_mono HO1987.out (fun _ hk => ⟨hk.1.1.2, ⟨hk.1.2, hk.2⟩⟩)))
                (case aS => exact (below_size zb))
                (case aL => have := LMc38.out; omega)
                intro v1993 w51 ho hb hg hat
                rw [← Ny1992.out] at ho
                have n0_ := Aside0.mk (Kd.R_after (ok := (fun k_ => some k_ ≠ (v1996 : Value).ownBlock ∧ k_ ≠ gb1959)) (by (with_reducible repeat (first | apply Kd.R_alloc | apply Kd.R_drewN | apply Kd.R_drew)); exact Kd.R_mono HO_3.out (fun _ hk => ⟨⟨hk.1.2, hk.1.1⟩, hk.2⟩)) hg hat)
                have n1_ := Aside0.mk (blk_grown (g := gb1959) (o := .cells #[.int .i64 ((rd_T26 l0 x10_1).f0), .int .i64 ((rd_T26 l0 x10_1).f1)] 26 (0, 0)) zk hg (Kd.R_away HO1987.out (fun _ hk => hk.2)))
                have n2_ := Aside0.mk (Kd.R_after (ok := (fun k_ => some k_ ≠ (.slice Ao44 x3_1.length co44 : Value).ownBlock ∧ k_ ≠ gb1959)) (by (with_reducible repeat (first | apply Kd.R_alloc | apply Kd.R_drewN | apply Kd.R_drew)); exact Kd.R_mono HO1997.out (fun _ hk => ⟨⟨hk.1.1.2, hk.1.2⟩, hk.2⟩)) hg hat)
                have n3_ := Aside0.mk (hb)
                have n4_ := Aside0.mk ((show Kd.C k26 w51 Ao44 y1988.length y1988 from by rw [Ny1988.out]; exact Kd.C_take (m := (x6_2 : Int).toNat) ((Kd.R_reads' (Kd.R_after (ok := (fun k_ => some k_ ≠ (v1996 : Value).ownBlock ∧ k_ ≠ gb1959)) (by (with_reducible repeat (first | apply Kd.R_alloc | apply Kd.R_drewN | apply Kd.R_drew)); exact Kd.R_mono HO_3.out (fun _ hk => ⟨⟨hk.1.2, hk.1.1⟩, hk.2⟩)) hg hat)).2.2) KL46.out))
                have n5_ := Aside0.mk (ho)
                clear HO_3
                clear BK1959
                clear HO1997
                clear HB
                clear HR1991
                clear HO1987
                have HO_3 := n0_
                have BK1959 := n1_
                have HO1997 := n2_
                have HB := n3_
                have HR1991 := n4_
                have HO1994 := n5_
                clear n0_ n1_ n2_ n3_ n4_ n5_
                clear ho hb hg hat
                refine hK.out _ _ ⟨(blk_cell BK1959.out 0).trans rfl, (blk_cell BK1959.out 1).trans rfl⟩ (fun hHeld => ?_)
                clear hK K
                refine norm_ (a' := ?_) ?_ ?_
                rotate_left
                ·show Act.put _ (some 32) _ = _
                 exact zs
                exact norm_ (by simp only [putAll, Act.put, List.setIfInBounds_toArray, List.set_cons_zero, List.set_cons_succ]) (hCont (v1986, v1993, v1996) _ ⟨hHeld, (by (with_reducible repeat (first | apply Kd.R_alloc | apply Kd.R_drewN | apply Kd.R_drew)); exact Kd.R_mono HO1994.out (fun _ hk => ⟨hk.2.1, ⟨hk.1, hk.2.2⟩⟩)), (by (with_reducible repeat (first | apply Kd.R_alloc | apply Kd.R_drewN | apply Kd.R_drew)); exact Kd.R_mono HO1997.out (fun _ hk => ⟨hk.2, ⟨hk.1.1, hk.1.2⟩⟩)), (by (with_reducible repeat (first | apply Kd.R_alloc | apply Kd.R_drewN | apply Kd.R_drew)); exact Kd.R_mono HO_3.out (fun _ hk => ⟨hk.2, ⟨hk.1.1, hk.1.2⟩⟩)), zk, zb⟩)
              rintro ⟨v1986, v1993, v1996⟩ w52 ⟨hS_, h0_, h1_, h2_, h3_, h4_⟩
              have n0_ : Aside0 (Kd.R k26 26 w52 w.heap.size (fun k_ => some k_ ≠ (v1996 : Value).ownBlock ∧ some k_ ≠ (.slice Ao44 x3_1.length co44 : Value).ownBlock ∧ k_ ≠ gb1959) v1993 y1992) := ⟨h0_⟩
              have n1_ : Aside0 (Kd.R k26 26 w52 w.heap.size (fun k_ => some k_ ≠ (v1993 : Value).ownBlock ∧ some k_ ≠ (.slice Ao44 x3_1.length co44 : Value).ownBlock ∧ k_ ≠ gb1959) v1996 y1995) := ⟨h1_⟩
              have n2_ : Aside0 (Kd.R k26 26 w52 w.heap.size (fun k_ => some k_ ≠ (v1993 : Value).ownBlock ∧ some k_ ≠ (v1996 : Value).ownBlock ∧ k_ ≠ gb1959) (.slice Ao44 x3_1.length co44) x3_1) := ⟨h2_⟩
              have n3_ : Aside0 (w52.heap[gb1959]? = some (.cells #[.int .i64 ((rd_T26 l0 x10_1).f0), .int .i64 ((rd_T26 l0 x10_1).f1)] 26 (0, 0))) := ⟨h3_⟩
              have n4_ : Aside0 (Below w.heap.size w w52) := ⟨h4_⟩
              clear HO_3
              clear BK1959
              clear HB
              clear h0_ h1_ h2_ h3_ h4_
              have HO1994 := n0_
              have HO1997 := n1_
              have HO_3 := n2_
              have BK1959 := n3_
              have HB := n4_
              clear n0_ n1_ n2_ n3_ n4_
              have hHeld : w52.cell? ⟨gb1959, 0, none⟩ = some (.int .i64 ((rd_T26 l0 x10_1).f0)) ∧ w52.cell? ⟨gb1959, 1, none⟩ = some (.int .i64 ((rd_T26 l0 x10_1).f1)) := hS_
              obtain ⟨Ao54, co54, eo54⟩ := Kd.R_slice HO1997.out
              (first | subst eo54 | (injection eo54 with f1_ f2_ f3_; have f4_ := f1_.symm; have f5_ := f3_.symm; clear f1_ f2_ f3_; subst f4_; subst f5_))
              refine norm_ (a' := ?_) ?_ ?_
              rotate_left
              ·simp only [putAll, Act.put, List.setIfInBounds_toArray, List.set_cons_zero, List.set_cons_succ]
               rfl
              refine one_ (i := 7) (N := some 35) (zl 9 255) rfl rfl (one_of HT_.out (by kernel_rfl)) (by decide) (fun K hK => ?_)
              refine Kd.R_append_rows_step k26 (w0 := w) w.heap.size (by rfl) (.tmp 32) (.tmp 34) 24 26 (.agg #[(.int .i64 0), (.int .i64 0)]) 16 rfl Try.underlying24 info26 rfl (by decide) (by omega) v1993 y1992 y1995 _ _ _ (fun k_ => some k_ ≠ (.slice Ao44 x3_1.length co44 : Value).ownBlock ∧ some k_ ≠ (.slice Ao54 y1995.length co54 : Value).ownBlock ∧ k_ ≠ gb1959) (fun _ => False) rfl rfl ?aO ?aR (fun _ _ h => h) (fun _ h => h.elim) ?aF ?aB ?aS ?aL ?_
              (case aR => repeat (first | exact (Kd.R_reads' HO1997.out).2.2 | (with_reducible refine Kd.C_alloc ?_ _) | (with_reducible refine Kd.C_drewN ?_ _) | (with_reducible refine Kd.C_drew ?_)))
              (case aB => exact zb)
              (case aF => exact (fun k_ hk => ⟨Kd.fresh' (Kd.R_lt (by (with_reducible repeat (first | apply Kd.R_alloc | apply Kd.R_drewN | apply Kd.R_drew)); exact HO_3.out)) k_ hk, Kd.fresh' (Kd.R_lt (by (with_reducible repeat (first | apply Kd.R_alloc | apply Kd.R_drewN | apply Kd.R_drew)); exact HO1997.out)) k_ hk, Kd.freshB (g := gb1959) (o := .cells #[.int .i64 ((rd_T26 l0 x10_1).f0), .int .i64 ((rd_T26 l0 x10_1).f1)] 26 (0, 0)) zk k_ hk⟩))
              (case aO => exact (by (with_reducible repeat (first | apply Kd.R_alloc | apply Kd.R_drewN | apply Kd.R_drew)); exact Kd.R_mono HO1994.out (fun _ hk => ⟨hk.2.1, ⟨hk.1, hk.2.2⟩⟩)))
              (case aS => exact (below_size zb))
              (case aL => have := LMc39.out; omega)
              intro v1999 w53 ho hb hg hat
              rw [← Ny1998.out] at ho
              have n0_ := Aside0.mk (Kd.R_after (ok := (fun k_ => some k_ ≠ (.slice Ao54 y1995.length co54 : Value).ownBlock ∧ k_ ≠ gb1959)) (by (with_reducible repeat (first | apply Kd.R_alloc | apply Kd.R_drewN | apply Kd.R_drew)); exact Kd.R_mono HO_3.out (fun _ hk => ⟨⟨hk.2.1, hk.2.2⟩, hk.1⟩)) hg hat)
              have n1_ := Aside0.mk (blk_grown (g := gb1959) (o := .cells #[.int .i64 ((rd_T26 l0 x10_1).f0), .int .i64 ((rd_T26 l0 x10_1).f1)] 26 (0, 0)) zk hg (Kd.R_away HO1994.out (fun _ hk => hk.2.2)))
              have n2_ := Aside0.mk (Kd.R_after (ok := (fun k_ => some k_ ≠ (.slice Ao44 x3_1.length co44 : Value).ownBlock ∧ k_ ≠ gb1959)) (by (with_reducible repeat (first | apply Kd.R_alloc | apply Kd.R_drewN | apply Kd.R_drew)); exact Kd.R_mono HO1997.out (fun _ hk => ⟨⟨hk.2.1, hk.2.2⟩, hk.1⟩)) hg hat)
              have n3_ := Aside0.mk (hb)
              have n4_ := Aside0.mk (ho)
              clear HO_3
              clear BK1959
              clear HO1997
              clear HB
              clear HO1994
              have HO_3 := n0_
              have BK1959 := n1_
              have HO1997 := n2_
              have HB := n3_
              have HO2000 := n4_
              clear n0_ n1_ n2_ n3_ n4_
              clear ho hb hg hat
              refine hK.out _ _ ⟨(blk_cell BK1959.out 0).trans rfl, (blk_cell BK1959.out 1).trans rfl⟩ (fun hHeld => ?_)
              clear hK K
              refine norm_ (a' := ?_) ?_ ?_
              rotate_left
              ·show Act.put _ (some 35) _ = _
               exact zs
              refine zp 8 7 9 511 HT_ ?_
              refine done_ (done_of HT_.out (by kernel_rfl)) ?_
              have q55 : (x6_2 : Int) ≤ ((x3_1.length : Int) : Int) := of_decide_eq_true (by first | (with_reducible assumption) | assumption)
              obtain ⟨i055, hi055, _, hsz55, _⟩ := info_parts info26
              have hroom55 : x3_1.length ≤ co44 := (Kd.R_reads' HO_3.out).2.1
              have hC55 : Kd.C k26 _ Ao44 x3_1.length x3_1 := (Kd.R_reads' HO_3.out).2.2
              have q055 : (0 : Int) ≤ (x6_2 : Int) := of_decide_eq_true (by first | (with_reducible assumption) | assumption)
              have hcut55 := cut_from (P := Try.prog) 24 26 .i64 Try.underlying24 hi055 2 hsz55 Ao44 x3_1.length co44 x6_2 q055 q55
              have hr55 := Kd.C_drop (m := (x6_2 : Int).toNat) (c := co44) hC55 (by omega) hroom55
              obtain ⟨A55, hA55⟩ : ∃ A1, A1 = (if co44 = (x6_2 : Int).toNat then Ao44 else (Ao44 : Option Addr).map (·.add ((x6_2 : Int).toNat * 2))) := ⟨_, rfl⟩
              obtain ⟨c55, hc55⟩ : ∃ c1, c1 = co44 - (x6_2 : Int).toNat := ⟨_, rfl⟩
              have hy55 : y2001.length = x3_1.length - (x6_2 : Int).toNat := (by rw [Ny2001.out, List.length_drop] <;> omega)
              rw [show (x3_1).drop (x6_2 : Int).toNat = y2001 from Ny2001.out.symm] at hr55
              replace hr55 : Kd.C k26 _ A55 y2001.length y2001 := (by rw [hA55]; exact hr55)
              rw [← hy55, ← hA55, ← hc55] at hcut55
              have HR2004 := Aside0.mk hr55
              have HC2004 := Aside0.mk (show y2001.length ≤ c55 from by rw [hy55, hc55]; exact Nat.sub_le_sub_right hroom55 _)
              clear hr55 hC55 hroom55 hi055 hsz55 hc55
              have KY55 := Aside0.mk hy55
              have KA55 := Aside0.mk hA55
              clear hy55 hA55
              have KL55 := Aside0.mk (show (x6_2 : Int).toNat ≤ x3_1.length from by omega)
              replace q55 := eq_true q55
              try go_wp2_with (first | ((with_reducible refine gate_builtin (b := .append) (xs := #[.tmp 36, .tmp 39]) rfl ?_); at_builtin; refine Kd.R_append_rows k26 (w0 := w) w.heap.size rfl (.tmp 36) (.tmp 39) 24 26 (.agg #[(.int .i64 0), (.int .i64 0)]) 16 rfl Try.underlying24 info26 rfl (by decide) (by omega) v1999 y1998 y2001 _ _ _ (fun k_ => some k_ ≠ (.slice Ao44 x3_1.length co44 : Value).ownBlock ∧ some k_ ≠ (.slice Ao54 y1995.length co54 : Value).ownBlock ∧ k_ ≠ gb1959) (fun _ => False) rfl rfl ?aO ?aR (fun _ _ h => h) (fun _ h => h.elim) ?aF ?aB ?aS ?aL ?_; (case aR => repeat (first | exact (by repeat (first | (with_reducible exact HR2004.out) | (with_reducible refine Kd.C_alloc ?_ _) | (with_reducible refine Kd.C_drewN ?_ _) | (with_reducible refine Kd.C_drew ?_) | exact HR2004.out)) | (with_reducible refine Kd.C_alloc ?_ _) | (with_reducible refine Kd.C_drewN ?_ _) | (with_reducible refine Kd.C_drew ?_))); (case aB => exact zb); (case aF => exact (fun k_ hk => ⟨Kd.fresh' (Kd.R_lt (by (with_reducible repeat (first | apply Kd.R_alloc | apply Kd.R_drewN | apply Kd.R_drew)); exact HO_3.out)) k_ hk, Kd.fresh' (Kd.R_lt (by (with_reducible repeat (first | apply Kd.R_alloc | apply Kd.R_drewN | apply Kd.R_drew)); exact HO1997.out)) k_ hk, Kd.freshB (g := gb1959) (o := .cells #[.int .i64 ((rd_T26 l0 x10_1).f0), .int .i64 ((rd_T26 l0 x10_1).f1)] 26 (0, 0)) zk k_ hk⟩)); (case aO => exact (by (with_reducible repeat (first | apply Kd.R_alloc | apply Kd.R_drewN | apply Kd.R_drew)); exact HO2000.out)); (case aS => exact (below_size zb)); (case aL => have := LMc42.out; omega); intro v2006 w56 ho hb hg hat; rw [← Ny2005.out] at ho; have n0_ := Aside0.mk (Kd.R_after (ok := (fun k_ => some k_ ≠ (.slice Ao54 y1995.length co54 : Value).ownBlock ∧ k_ ≠ gb1959)) (by (with_reducible repeat (first | apply Kd.R_alloc | apply Kd.R_drewN | apply Kd.R_drew)); exact HO_3.out) hg hat); have n1_ := Aside0.mk (blk_grown (g := gb1959) (o := .cells #[.int .i64 ((rd_T26 l0 x10_1).f0), .int .i64 ((rd_T26 l0 x10_1).f1)] 26 (0, 0)) zk hg (Kd.R_away HO2000.out (fun _ hk => hk.2.2))); have n2_ := Aside0.mk (Kd.R_after (ok := (fun k_ => some k_ ≠ (.slice Ao44 x3_1.length co44 : Value).ownBlock ∧ k_ ≠ gb1959)) (by (with_reducible repeat (first | apply Kd.R_alloc | apply Kd.R_drewN | apply Kd.R_drew)); exact HO1997.out) hg hat); have n3_ := Aside0.mk (hb); have n4_ := Aside0.mk ((show Kd.C k26 w56 A55 y2001.length y2001 from by rw [Ny2001.out, KA55.out]; exact Kd.C_drop (m := (x6_2 : Int).toNat) (c := co44) ((Kd.R_reads' (Kd.R_after (ok := (fun k_ => some k_ ≠ (.slice Ao54 y1995.length co54 : Value).ownBlock ∧ k_ ≠ gb1959)) (by (with_reducible repeat (first | apply Kd.R_alloc | apply Kd.R_drewN | apply Kd.R_drew)); exact HO_3.out) hg hat)).2.2) KL55.out ((Kd.R_reads' (Kd.R_after (ok := (fun k_ => some k_ ≠ (.slice Ao54 y1995.length co54 : Value).ownBlock ∧ k_ ≠ gb1959)) (by (with_reducible repeat (first | apply Kd.R_alloc | apply Kd.R_drewN | apply Kd.R_drew)); exact HO_3.out) hg hat)).2.1))); have n5_ := Aside0.mk (ho); clear HO_3; clear BK1959; clear HO1997; clear HB; clear HR2004; clear HO2000; have HO_3 := n0_; have BK1959 := n1_; have HO1997 := n2_; have HB := n3_; have HR2004 := n4_; have HO2007 := n5_; clear n0_ n1_ n2_ n3_ n4_ n5_; clear ho hb hg hat))
              go_roundg k2
              case measure => have := HK1.out; have := HK2.out; omega
              case rel => exact ⟨(y2005), (wrap64 (x10_1 + 1)), (by first | rfl | (simp; done) | (simp [*]; done)), H', ⟨by have := HK1.out; have := HK2.out; omega⟩, ⟨by (with_reducible repeat (first | apply Kd.R_alloc | apply Kd.R_drewN | apply Kd.R_drew)); exact Kd.R_mono HO2007.out (fun _ hk => trivial)⟩, ⟨zb⟩⟩
             ·rw [if_neg c42] at H
              exact absurd H (by simp)
            ·rw [if_neg c39] at H
             exact absurd H (by simp)
           ·rw [if_neg c38] at H
            exact absurd H (by simp)
          ·rw [if_neg c37] at H
           exact absurd H (by simp)
         ·rw [if_neg c36] at H
          exact absurd H (by simp)
     ·rw [if_neg c4] at H
      exact absurd H (by simp)
    ·rw [if_neg c3] at H
     exact absurd H (by simp)
   ·rw [if_neg c2] at H
    have c2b0 : decide (x10_1 < (l0.length : Int)) = false := decide_eq_false c2
    clear c2
    obtain rfl := Option.some.inj H
    go_wp2
    go_ret
    exact ⟨_, by first | rfl | (simp [errW_none, errW_some] <;> rfl) | (simp [*, errW_none, errW_some] <;> rfl), by (with_reducible repeat (first | apply Kd.R_alloc | apply Kd.R_drewN | apply Kd.R_drew)); exact HO_3.out, zb⟩
end Go.Proofs.Ytphpdfcblchpnaa.Q
namespace Go.Proofs.Ytphpdfcblchpnaa.Q
open Go.RowKit Go.Proofs.YtphpdfcblchpnaaW.PrintWords Go.Proofs.YtphpdfcblchpnaaW.PrintLast Go.Proofs.YtphpdfcblchpnaaW.PrintMore
attribute [local go_sem] max2_int min2_int max_two min_two max_three min_three max_four min_four   -- for this text's walks alone
set_option linter.unusedVariables false
set_option linter.unusedSimpArgs false
mutual
def spec_bdBand.l0 : Nat → List (S26) → List (S26) → Int → Option ((List (S26)))
 | 0, _, _, _ => none
 | k + 1, x3, x4, x5 => if x5 < 2 then (spec_bdBand.l1 k x3 x4 x5 (x4.length : Int) (x3.length : Int) 0) else (some x4)
def spec_bdBand.l1 : Nat → List (S26) → List (S26) → Int → Int → Int → Int → Option ((List (S26)))
 | 0, _, _, _, _, _, _ => none
 | k + 1, x3, x4, x5, x6, x22, x23 => if x23 < x22 then (if 0 ≤ x23 then (if x23 < (x3.length : Int) then (if x5 = 1 then (if 0 ≤ (wrap64 ((wrap64 ((x3.length : Int) - 1)) - x23)) then (if (wrap64 ((wrap64 ((x3.length : Int) - 1)) - x23)) < (x3.length : Int) then (spec_bdBand.j2 k x3 x4 x5 x6 x22 x23 ((rd_T26 x3 (wrap64 ((wrap64 ((x3.length : Int) - 1)) - x23))).f0) ((rd_T26 x3 (wrap64 ((wrap64 ((x3.length : Int) - 1)) - x23))).f1)) else (none)) else (none)) else (spec_bdBand.j2 k x3 x4 x5 x6 x22 x23 ((rd_T26 x3 x23).f0) ((rd_T26 x3 x23).f1))) else (none)) else (none)) else (if 0 ≤ (wrap64 ((x4.length : Int) - 1)) then (if (wrap64 ((x4.length : Int) - 1)) ≤ (x4.length : Int) then (spec_bdBand.l0 k x3 (x4.take ((wrap64 ((x4.length : Int) - 1)) : Int).toNat) (wrap64 (x5 + 1))) else (none)) else (none))
def spec_bdBand.j2 : Nat → List (S26) → List (S26) → Int → Int → Int → Int → Int → Int → Option ((List (S26)))
 | 0, _, _, _, _, _, _, _, _ => none
 | k + 1, x3, x4, x5, x6, x22, x23, x2275000, x2275001 => spec_bdBand.l2 k x3 x4 x5 x6 x22 x23 x2275000 x2275001
def spec_bdBand.l2 : Nat → List (S26) → List (S26) → Int → Int → Int → Int → Int → Int → Option ((List (S26)))
 | 0, _, _, _, _, _, _, _, _ => none
 | k + 1, x3, x4, x5, x6, x22, x23, x2275000, x2275001 => if (x4.length : Int) > (wrap64 (x6 + 1)) then (if 0 ≤ (wrap64 ((x4.length : Int) - 2)) then (if (wrap64 ((x4.length : Int) - 2)) < (x4.length : Int) then (if 0 ≤ (wrap64 ((x4.length : Int) - 1)) then (if (wrap64 ((x4.length : Int) - 1)) < (x4.length : Int) then ((spec_pgTurn.f ((rd_T26 x4 (wrap64 ((x4.length : Int) - 2))).f0) ((rd_T26 x4 (wrap64 ((x4.length : Int) - 2))).f1) ((rd_T26 x4 (wrap64 ((x4.length : Int) - 1))).f0) ((rd_T26 x4 (wrap64 ((x4.length : Int) - 1))).f1) x2275000 x2275001).bind fun t2278 => (if t2278 ≤ 0 then (if (wrap64 ((x4.length : Int) - 1)) ≤ (x4.length : Int) then (spec_bdBand.l2 k x3 (x4.take ((wrap64 ((x4.length : Int) - 1)) : Int).toNat) x5 x6 x22 x23 x2275000 x2275001) else (none)) else (if x4.length < 8796093022208 then (spec_bdBand.l1 k x3 (x4 ++ [(⟨x2275000, x2275001⟩ : S26)]) x5 x6 x22 (wrap64 (x23 + 1))) else (none)))) else (none)) else (none)) else (none)) else (none)) else (if x4.length < 8796093022208 then (spec_bdBand.l1 k x3 (x4 ++ [(⟨x2275000, x2275001⟩ : S26)]) x5 x6 x22 (wrap64 (x23 + 1))) else (none))
end
def spec_bdBand.f (k : Nat) (l0 : List (S26)) : Option ((List (S26))) := (spec_bdSorted.f k l0).bind fun t2267 => (if (t2267.length : Int) < 3 then (some t2267) else (spec_bdBand.l0 k t2267 ([] : List (S26)) 0))
def spec_bdBand.T15 : Bool × List (List Nat × List Nat) := (true, [([], []), ([0], [0]), ([], []), ([2], [2]), ([1, 3], [1, 3]), ([4], [4]), ([5], [5]), ([5], [5]), ([7, 5], [5, 7]), ([8, 5], [5, 8]), ([6, 9, 5], [5, 6, 9]), ([10, 5], [5, 10]), ([5], [5]), ([5], [5]), ([13, 5], [5, 13]), ([14, 5], [5, 14]), ([12, 15, 5], [5, 12, 15]), ([16, 5], [5, 16]), ([5], [5]), ([11, 17, 18, 5, 5], [5, 11, 17, 18]), ([19, 5], [5, 19]), ([5, 20], [5, 20])])
def spec_bdBand.B15 : List Nat := [0, 1, 0, 4, 15, 31, 63, 63, 191, 447, 1023, 2047, 63, 63, 8255, 24639, 61503, 127039, 63, 524287, 1048575, 2097151]
theorem spec_bdBand.tab15 : rtab .any (opsOf Try.f289 15) = spec_bdBand.T15 := by kernel_rfl
theorem spec_bdBand.bits15 : waitsOk spec_bdBand.T15.2 spec_bdBand.B15 = true := by kernel_rfl
set_option maxHeartbeats 8000000 in
set_option maxRecDepth 100000 in
theorem spec_bdBand.calls (k : Nat) (A0 : Option Addr) (c0 : Nat) (l0 : List (S26)) (r : List (S26)) (w : World) (hr0 : Kd.C k26 w A0 l0.length l0) (hc0 : l0.length ≤ c0) (h : spec_bdBand.f k l0 = some r) :
  Calls Try.prog 289 #[.slice A0 l0.length c0] w fun e w' => ∃ v0_ : Value, e = .returned (v0_) ∧ Kd.R k26 26 w' w.heap.size (fun _ => True) v0_ r ∧ Below w.heap.size w w' := by
 have hu26 := Try.underlying26
 have HR0 := Aside0.mk hr0
 have HC0 := Aside0.mk hc0
 clear hr0 hc0
 have HB := Aside0.mk (Below.refl w.heap.size w)
 have H : ((spec_bdSorted.f k l0).bind fun t2267 => (if (t2267.length : Int) < 3 then (some t2267) else (spec_bdBand.l0 k t2267 ([] : List (S26)) 0))) = some r := h
 clear h
 replace H := Option.bind_eq_some_iff.mp H
 obtain ⟨t2267, A20, H⟩ := H
 replace H : (if (t2267.length : Int) < 3 then (some t2267) else (spec_bdBand.l0 k t2267 ([] : List (S26)) 0)) = some r := H
 have A2 := Aside0.mk A20
 clear A20
 by_cases c3 : (t2267.length : Int) < 3
 ·rw [if_pos c3] at H
  have c3b0 : decide ((t2267.length : Int) < 3) = true := decide_eq_true c3
  have c3b1 : decide (t2267.length < 3) = true := decide_eq_true (by omega)
  clear c3
  obtain rfl := Option.some.inj H
  go_enter Try.func289, Try.ntmps289
  go_wp2_with (first | ((with_reducible refine gate_callee (f := 210) rfl ?_); refine goesL_ (some 10) rfl rfl Try.func210 (by kernel_rfl) rfl #[.slice A0 l0.length c0] rfl zn ?_; (with_reducible refine (spec_bdSorted.calls k _ _ l0 t2267 _ ?side1 ?side2 A2.out).mono ?_); (case side1 => repeat (first | exact HR0.out | (with_reducible refine Kd.C_alloc ?_ _) | (with_reducible refine Kd.C_drewN ?_ _) | (with_reducible refine Kd.C_drew ?_))); (case side2 => exact HC0.out); rintro e w4 ⟨v2268, rfl, ho0, hb⟩; refine ⟨_, rfl, ?_⟩; have n0_ := Aside0.mk (Kd.R_lower ho0 (below_size zb)); have n1_ := Aside0.mk (below_step zb hb); clear HB; have HO2269 := n0_; have HB := n1_; clear n0_ n1_; (try clear hb); (try clear hb2); (try clear hk); (try clear hi); (try clear ho0); obtain ⟨Ao5, co5, eo5⟩ := Kd.R_slice HO2269.out; subst eo5))
  go_ret
  exact ⟨_, by first | rfl | (simp [errW_none, errW_some] <;> rfl) | (simp [*, errW_none, errW_some] <;> rfl), by (with_reducible repeat (first | apply Kd.R_alloc | apply Kd.R_drewN | apply Kd.R_drew)); exact HO2269.out, zb⟩
 ·rw [if_neg c3] at H
  have c3b0 : decide ((t2267.length : Int) < 3) = false := decide_eq_false c3
  have c3b1 : decide (t2267.length < 3) = false := decide_eq_false (by omega)
  clear c3
  have H' := Aside0.mk H
  clear H
  go_enter Try.func289, Try.ntmps289
  go_wp2_with (first | ((with_reducible refine gate_callee (f := 210) rfl ?_); refine goesL_ (some 10) rfl rfl Try.func210 (by kernel_rfl) rfl #[.slice A0 l0.length c0] rfl zn ?_; (with_reducible refine (spec_bdSorted.calls k _ _ l0 t2267 _ ?side1 ?side2 A2.out).mono ?_); (case side1 => repeat (first | exact HR0.out | (with_reducible refine Kd.C_alloc ?_ _) | (with_reducible refine Kd.C_drewN ?_ _) | (with_reducible refine Kd.C_drew ?_))); (case side2 => exact HC0.out); rintro e w6 ⟨v2268, rfl, ho0, hb⟩; refine ⟨_, rfl, ?_⟩; have n0_ := Aside0.mk (Kd.R_lower ho0 (below_size zb)); have n1_ := Aside0.mk (below_step zb hb); clear HB; have HO2269 := n0_; have HB := n1_; clear n0_ n1_; (try clear hb); (try clear hb2); (try clear hk); (try clear hi); (try clear ho0); obtain ⟨Ao7, co7, eo7⟩ := Kd.R_slice HO2269.out; subst eo7))
  go_loopg [4, 5] k (fun kq v4 v5 w' => ∃ (x4_1 : List (S26)) (x5_1 : Int), v5 = .int .i64 x5_1 ∧ Aside0 (spec_bdBand.l0 kq t2267 x4_1 x5_1 = some r) ∧ Aside0 (kq ≤ k) ∧ Aside0 (Kd.R k26 26 w' w.heap.size (fun k_ => some k_ ≠ (v4 : Value).ownBlock) (.slice Ao7 t2267.length co7) t2267) ∧ Aside0 (Kd.R k26 26 w' w.heap.size (fun k_ => some k_ ≠ ((.slice Ao7 t2267.length co7) : Value).ownBlock) v4 x4_1) ∧ Aside0 (Below w.heap.size w w'))
  case atStart => exact ⟨(([] : List (S26))), (0), (by first | rfl | (simp; done) | (simp [*]; done)), H', ⟨Nat.le_refl _⟩, ⟨by (with_reducible repeat (first | apply Kd.R_alloc | apply Kd.R_drewN | apply Kd.R_drew)); exact Kd.R_mono HO2269.out (fun _ hk => (by simp [Value.ownBlock]))⟩, ⟨by first | exact Kd.R_nil _ _ _ _ _ | exact Kd.N_nil _ _ _ _ _ | exact Kd.V_nil _ _ _ _ _ | exact Kd.Q_nil _ _ _ _ _ | exact Kd.S_nil _ _ _ _ _⟩, ⟨zb⟩⟩
  case round =>
   clear H'
   try clear c2
   try clear p2
   try clear c3
   try clear c3b0
   try clear c3b1
   obtain ⟨x4_1, x5_1, rfl, HA, HK1, HO_3, HO_4, HB⟩ := hrel
   cases gk with
   | zero => exact absurd HA.out (by simp [spec_bdBand.l0])
   | succ k1 =>
    have H := HA.out
    clear HA
    simp only [spec_bdBand.l0] at H
    by_cases c8 : x5_1 < 2
    ·rw [if_pos c8] at H
     have c8b0 : decide (x5_1 < 2) = true := decide_eq_true c8
     clear c8
     have H' := Aside0.mk H
     clear H
     obtain ⟨Ao9, co9, eo9⟩ := Kd.R_slice HO_4.out
     subst eo9
     go_wp2
     go_loopg [4, 23] k1 (fun kq v4 v23 w' => ∃ (x4_2 : List (S26)) (x23_2 : Int), v23 = .int .i64 x23_2 ∧ Aside0 (spec_bdBand.l1 kq t2267 x4_2 x5_1 (x4_1.length : Int) (t2267.length : Int) x23_2 = some r) ∧ Aside0 (kq ≤ k1) ∧ Aside0 (Kd.R k26 26 w' w.heap.size (fun k_ => some k_ ≠ (v4 : Value).ownBlock) (.slice Ao7 t2267.length co7) t2267) ∧ Aside0 (Kd.R k26 26 w' w.heap.size (fun k_ => some k_ ≠ ((.slice Ao7 t2267.length co7) : Value).ownBlock) v4 x4_2) ∧ Aside0 (Below w.heap.size w w'))
     case atStart => exact ⟨(x4_1), (0), (by first | rfl | (simp; done) | (simp [*]; done)), H', ⟨Nat.le_refl _⟩, ⟨by (with_reducible repeat (first | apply Kd.R_alloc | apply Kd.R_drewN | apply Kd.R_drew)); exact HO_3.out⟩, ⟨by (with_reducible repeat (first | apply Kd.R_alloc | apply Kd.R_drewN | apply Kd.R_drew)); exact HO_4.out⟩, ⟨zb⟩⟩
     case round =>
      clear H'
      try clear c2
      try clear p2
      try clear c3
      try clear c3b0
      try clear c3b1
      try clear c8
      try clear c8b0
      try clear p2
      obtain ⟨x4_2, x23_2, rfl, HA, HK2, HO_3, HO_4, HB⟩ := hrel
      cases gk with
      | zero => exact absurd HA.out (by simp [spec_bdBand.l1])
      | succ k2 =>
       have H := HA.out
       clear HA
       simp only [spec_bdBand.l1] at H
       by_cases c10 : x23_2 < (t2267.length : Int)
       ·rw [if_pos c10] at H
        have c10b0 : decide (x23_2 < (t2267.length : Int)) = true := decide_eq_true c10
        clear c10
        by_cases c11 : 0 ≤ x23_2
        ·rw [if_pos c11] at H
         have c11b0 : decide (0 ≤ x23_2) = true := decide_eq_true c11
         clear c11
         by_cases c12 : x23_2 < (t2267.length : Int)
         ·rw [if_pos c12] at H
          have c12b0 : decide (x23_2 < (t2267.length : Int)) = true := decide_eq_true c12
          clear c12
          have HC13 := Aside0.mk H
          clear H
          have p2273 : 0 ≤ (x23_2 : Int) := of_decide_eq_true (by first | (with_reducible assumption) | assumption)
          have q2273 : x23_2 < (t2267.length : Int) := of_decide_eq_true (by first | (with_reducible assumption) | assumption)
          obtain ⟨ad2273, e2273, hx2273_0, hx2273_1⟩ := at_T26 (Kd.R_reads' HO_3.out).2.2 x23_2 p2273 q2273
          cases e2273
          replace p2273 := eq_true p2273
          replace q2273 := eq_true q2273
          go_upto_if 31 with (first | ((with_reducible refine gate_dst (N := 8) rfl ?_); (try (refine gate_guard (by rfl) ?_; dsimp only)); refine box_event ?hg (N := 8) ?hd (cs := #[.int .i64 0, .int .i64 0]) (t := 26) ?hr ?_; (case hd => rfl); (case hg => rfl); (case hr => first | (go_simp; done) | (go_simp; rfl)); intro gb2274 hg w14 hbox hb; have n0_ := Aside0.mk (Kd.R_below (Kd.R_elderB (by (with_reducible repeat (first | apply Kd.R_alloc | apply Kd.R_drewN | apply Kd.R_drew)); exact HO_3.out) gb2274 (Nat.le_of_eq hg.symm)) hb); have n1_ := Aside0.mk (Kd.R_below (Kd.R_elderB (by (with_reducible repeat (first | apply Kd.R_alloc | apply Kd.R_drewN | apply Kd.R_drew)); exact HO_4.out) gb2274 (Nat.le_of_eq hg.symm)) hb); have n2_ := Aside0.mk (below_step zb hb); have n3_ := Aside0.mk (hbox); have n4_ := Aside0.mk ((by rw [hg]; exact (below_size zb) : w.heap.size ≤ gb2274)); have n5_ := Aside0.mk ((by rw [hg]; exact (below_size zb) : w.heap.size ≤ gb2274)); clear HO_3; clear HO_4; clear HB; have HO_3 := n0_; have HO_4 := n1_; have HB := n2_; have BK2274 := n3_; have GW2274 := n4_; have GE2274 := n5_; clear n0_ n1_ n2_ n3_ n4_ n5_; clear hb hbox hg; have hcz15_0 : w14.cell? ⟨gb2274, 0, none⟩ = some (.int .i64 0) := (blk_cell BK2274.out 0).trans rfl; have hcz15_1 : w14.cell? ⟨gb2274, 1, none⟩ = some (.int .i64 0) := (blk_cell BK2274.out 1).trans rfl; have hfz15_0 := blk_frozen BK2274.out 0; have hfz15_1 := blk_frozen BK2274.out 1))
          (try simp only [Act.put, List.setIfInBounds_toArray, List.set_cons_zero, List.set_cons_succ])
          go_cut [] (fun wc => ∃ (kq : Nat) (x2275000_12 : Int) (x2275001_12 : Int), Aside0 (spec_bdBand.j2 kq t2267 x4_2 x5_1 (x4_1.length : Int) (t2267.length : Int) x23_2 x2275000_12 x2275001_12 = some r) ∧ Aside0 (kq ≤ k2) ∧ Aside0 (Kd.R k26 26 wc w.heap.size (fun k_ => some k_ ≠ (u4 : Value).ownBlock ∧ k_ ≠ gb2274) (.slice (some ad2273) t2267.length co7) t2267) ∧ Aside0 (Kd.R k26 26 wc w.heap.size (fun k_ => some k_ ≠ ((.slice (some ad2273) t2267.length co7) : Value).ownBlock ∧ k_ ≠ gb2274) u4 x4_2) ∧ Aside0 (wc.heap[gb2274]? = some (.cells #[.int .i64 x2275000_12, .int .i64 x2275001_12] 26 (0, 0))) ∧ Aside0 (Below w.heap.size w wc))
          case first =>
           have H := HC13.out
           clear HC13
           by_cases c16 : x5_1 = 1
           ·rw [if_pos c16] at H
            have c16b0 : (x5_1 == 1) = true := beq_iff_eq.mpr c16
            have c16b1 : (x5_1 != 1) = false := bne_eq_false_iff_eq.mpr c16
            clear c16
            (first | rw [c16b0] | (simp only [i64_w, i32_w]; rw [c16b0]) | skip)
            obtain ⟨ji17, hji17⟩ : ∃ j_ : Int, (wrap64 ((wrap64 ((t2267.length : Int) - 1)) - x23_2)) = j_ := ⟨_, rfl⟩
            replace H : (if 0 ≤ (ji17) then (if (ji17) < (t2267.length : Int) then (spec_bdBand.j2 k2 t2267 x4_2 x5_1 (x4_1.length : Int) (t2267.length : Int) x23_2 ((rd_T26 t2267 (ji17)).f0) ((rd_T26 t2267 (ji17)).f1)) else (none)) else (none)) = some r := by first | (rw [hji17] at H; exact H) | (simp only [hji17] at H ⊢; exact H)
            have hji17w : (IntKind.i64.wrap ((wrap64 ((t2267.length : Int) - 1)) - x23_2)) = ji17 := (i64_w _).trans hji17
            by_cases c18 : 0 ≤ (ji17)
            ·rw [if_pos c18] at H
             have c18b0 : decide (0 ≤ (ji17)) = true := decide_eq_true c18
             clear c18
             by_cases c19 : (ji17) < (t2267.length : Int)
             ·rw [if_pos c19] at H
              have c19b0 : decide ((ji17) < (t2267.length : Int)) = true := decide_eq_true c19
              clear c19
              have H' := Aside0.mk H
              clear H
              have p2275 : 0 ≤ ((ji17) : Int) := of_decide_eq_true (by first | (with_reducible assumption) | assumption)
              have q2275 : (ji17) < (t2267.length : Int) := of_decide_eq_true (by first | (with_reducible assumption) | assumption)
              obtain ⟨ad2275, e2275, hx2275_0, hx2275_1⟩ := at_T26 (Kd.R_reads' HO_3.out).2.2 (ji17) p2275 q2275
              obtain rfl : ad2273 = ad2275 := (by injection e2275)
              have hn2275_0 : ad2273.block ≠ gb2274 := Kd.own_blk (by first | exact Kd.R_ne HO_3.out BK2274.out (by decide) | exact Kd.R_away HO_3.out (fun _ hk => hk.2))
              have hn2275_1 : ad2273.block ≠ gb2274 := Kd.own_blk (by first | exact Kd.R_ne HO_3.out BK2274.out (by decide) | exact Kd.R_away HO_3.out (fun _ hk => hk.2))
              replace hx2275_0 := (cell_far (p := ⟨gb2274, 0, none⟩) (by first | (rw [add_block]; exact hn2275_0) | (show (Addr.add _ _).block ≠ _; rw [add_block]; exact hn2275_0) | exact hn2275_0) (.int .i64 ((rd_T26 t2267 x23_2).f0))).trans hx2275_0
              replace hx2275_1 := (cell_far (p := ⟨gb2274, 0, none⟩) (by first | (rw [add_block]; exact hn2275_0) | (show (Addr.add _ _).block ≠ _; rw [add_block]; exact hn2275_0) | exact hn2275_0) (.int .i64 ((rd_T26 t2267 x23_2).f0))).trans hx2275_1
              replace hx2275_0 := (cell_far (p := ⟨gb2274, 1, none⟩) (by first | (rw [add_block]; exact hn2275_1) | (show (Addr.add _ _).block ≠ _; rw [add_block]; exact hn2275_1) | exact hn2275_1) (.int .i64 ((rd_T26 t2267 x23_2).f1))).trans hx2275_0
              replace hx2275_1 := (cell_far (p := ⟨gb2274, 1, none⟩) (by first | (rw [add_block]; exact hn2275_1) | (show (Addr.add _ _).block ≠ _; rw [add_block]; exact hn2275_1) | exact hn2275_1) (.int .i64 ((rd_T26 t2267 x23_2).f1))).trans hx2275_1
              clear hn2275_0
              clear hn2275_1
              replace p2275 := eq_true p2275
              replace q2275 := eq_true q2275
              have hcz20_0 : w14.cell? ⟨gb2274, 0, none⟩ = some (.int .i64 0) := (blk_cell BK2274.out 0).trans rfl
              have hcz20_1 : w14.cell? ⟨gb2274, 1, none⟩ = some (.int .i64 0) := (blk_cell BK2274.out 1).trans rfl
              have hfz20_0 := blk_frozen BK2274.out 0
              have hfz20_1 := blk_frozen BK2274.out 1
              go_wp2
              go_meet
              case rel => exact ⟨_, ((rd_T26 t2267 (ji17)).f0), ((rd_T26 t2267 (ji17)).f1), H', ⟨by have := HK1.out; have := HK2.out; first | omega | exact Nat.le_refl _⟩, ⟨by (with_reducible repeat (first | apply Kd.R_alloc | apply Kd.R_drewN | apply Kd.R_drew)); exact Kd.R_mono (Kd.R_far (p := ⟨gb2274, 1, none⟩) (Kd.R_far (p := ⟨gb2274, 0, none⟩) (Kd.R_far (p := ⟨gb2274, 1, none⟩) (Kd.R_far (p := ⟨gb2274, 0, none⟩) (Kd.R_mono HO_3.out (fun k_ hk => (⟨hk, hk.2⟩ : _ ∧ k_ ≠ gb2274))) (fun _ hk => hk.2) (.int .i64 ((rd_T26 t2267 x23_2).f0))) (fun _ hk => hk.2) (.int .i64 ((rd_T26 t2267 x23_2).f1))) (fun _ hk => hk.2) (.int .i64 ((rd_T26 t2267 (ji17)).f0))) (fun _ hk => hk.2) (.int .i64 ((rd_T26 t2267 (ji17)).f1))) (fun _ hk => ⟨hk.1.1, hk.1.2⟩)⟩, ⟨by (with_reducible repeat (first | apply Kd.R_alloc | apply Kd.R_drewN | apply Kd.R_drew)); exact Kd.R_mono (Kd.R_far (p := ⟨gb2274, 1, none⟩) (Kd.R_far (p := ⟨gb2274, 0, none⟩) (Kd.R_far (p := ⟨gb2274, 1, none⟩) (Kd.R_far (p := ⟨gb2274, 0, none⟩) (Kd.R_mono HO_4.out (fun k_ hk => (⟨hk, hk.2⟩ : _ ∧ k_ ≠ gb2274))) (fun _ hk => hk.2) (.int .i64 ((rd_T26 t2267 x23_2).f0))) (fun _ hk => hk.2) (.int .i64 ((rd_T26 t2267 x23_2).f1))) (fun _ hk => hk.2) (.int .i64 ((rd_T26 t2267 (ji17)).f0))) (fun _ hk => hk.2) (.int .i64 ((rd_T26 t2267 (ji17)).f1))) (fun _ hk => ⟨hk.1.1, hk.1.2⟩)⟩, ⟨by (with_reducible repeat (first | refine blk_drewN ?_ _ | refine blk_drew ?_ | refine blk_alloc ?_ _)); refine blk_put (cs := #[.int .i64 ((rd_T26 t2267 (ji17)).f0), .int .i64 ((rd_T26 t2267 x23_2).f1)]) ?_ 1 _ rfl; (with_reducible repeat (first | refine blk_drewN ?_ _ | refine blk_drew ?_ | refine blk_alloc ?_ _)); refine blk_put (cs := #[.int .i64 ((rd_T26 t2267 x23_2).f0), .int .i64 ((rd_T26 t2267 x23_2).f1)]) ?_ 0 _ rfl; (with_reducible repeat (first | refine blk_drewN ?_ _ | refine blk_drew ?_ | refine blk_alloc ?_ _)); refine blk_put (cs := #[.int .i64 ((rd_T26 t2267 x23_2).f0), .int .i64 0]) ?_ 1 _ rfl; (with_reducible repeat (first | refine blk_drewN ?_ _ | refine blk_drew ?_ | refine blk_alloc ?_ _)); refine blk_put (cs := #[.int .i64 0, .int .i64 0]) ?_ 0 _ rfl; (with_reducible repeat (first | refine blk_drewN ?_ _ | refine blk_drew ?_ | refine blk_alloc ?_ _)); exact BK2274.out⟩, ⟨zb⟩⟩
             ·rw [if_neg c19] at H
              exact absurd H (by simp)
            ·rw [if_neg c18] at H
             exact absurd H (by simp)
           ·rw [if_neg c16] at H
            have c16b0 : (x5_1 == 1) = false := beq_eq_false_iff_ne.mpr c16
            have c16b1 : (x5_1 != 1) = true := bne_iff_ne.mpr c16
            (first | rw [c16b0] | (simp only [i64_w, i32_w]; rw [c16b0]) | skip)
            have H' := Aside0.mk H
            clear H
            go_wp2
            go_meet
            case rel => exact ⟨_, ((rd_T26 t2267 x23_2).f0), ((rd_T26 t2267 x23_2).f1), H', ⟨by have := HK1.out; have := HK2.out; first | omega | exact Nat.le_refl _⟩, ⟨by (with_reducible repeat (first | apply Kd.R_alloc | apply Kd.R_drewN | apply Kd.R_drew)); exact Kd.R_mono (Kd.R_far (p := ⟨gb2274, 1, none⟩) (Kd.R_far (p := ⟨gb2274, 0, none⟩) (Kd.R_mono HO_3.out (fun k_ hk => (⟨hk, hk.2⟩ : _ ∧ k_ ≠ gb2274))) (fun _ hk => hk.2) (.int .i64 ((rd_T26 t2267 x23_2).f0))) (fun _ hk => hk.2) (.int .i64 ((rd_T26 t2267 x23_2).f1))) (fun _ hk => ⟨hk.1.1, hk.1.2⟩)⟩, ⟨by (with_reducible repeat (first | apply Kd.R_alloc | apply Kd.R_drewN | apply Kd.R_drew)); exact Kd.R_mono (Kd.R_far (p := ⟨gb2274, 1, none⟩) (Kd.R_far (p := ⟨gb2274, 0, none⟩) (Kd.R_mono HO_4.out (fun k_ hk => (⟨hk, hk.2⟩ : _ ∧ k_ ≠ gb2274))) (fun _ hk => hk.2) (.int .i64 ((rd_T26 t2267 x23_2).f0))) (fun _ hk => hk.2) (.int .i64 ((rd_T26 t2267 x23_2).f1))) (fun _ hk => ⟨hk.1.1, hk.1.2⟩)⟩, ⟨by (with_reducible repeat (first | refine blk_drewN ?_ _ | refine blk_drew ?_ | refine blk_alloc ?_ _)); refine blk_put (cs := #[.int .i64 ((rd_T26 t2267 x23_2).f0), .int .i64 0]) ?_ 1 _ rfl; (with_reducible repeat (first | refine blk_drewN ?_ _ | refine blk_drew ?_ | refine blk_alloc ?_ _)); refine blk_put (cs := #[.int .i64 0, .int .i64 0]) ?_ 0 _ rfl; (with_reducible repeat (first | refine blk_drewN ?_ _ | refine blk_drew ?_ | refine blk_alloc ?_ _)); exact BK2274.out⟩, ⟨zb⟩⟩
          case rest =>
           clear HC13
           try clear c1
           try clear c2
           try clear p2
           try clear q2
           try clear hx2
           try clear c3
           try clear c3b0
           try clear c3b1
           try clear p6
           try clear c8
           try clear c8b0
           try clear c10
           try clear c10b0
           try clear c11
           try clear c11b0
           try clear c12
           try clear c12b0
           try clear c16
           try clear c16b0
           try clear c16b1
           try clear c18
           try clear c18b0
           try clear c19
           try clear c19b0
           try clear hcz15_0
           try clear hcz15_1
           try clear hcz20_0
           try clear hcz20_1
           try clear hfz15_0
           try clear hfz15_1
           try clear hfz20_0
           try clear hfz20_1
           try clear hx2273_0
           try clear hx2273_1
           try clear hx2275_0
           try clear hx2275_1
           try clear p2
           try clear p2273
           try clear p2275
           try clear q2273
           try clear q2275
           obtain ⟨kq, x2275000_12, x2275001_12, HA, HJ12, HO_3, HO_4, BK2274, HB⟩ := hcut
           cases kq with
           | zero => exact absurd HA.out (by simp [spec_bdBand.j2])
           | succ kj12 =>
            have H := HA.out
            clear HA
            simp only [spec_bdBand.j2] at H
            have H' := Aside0.mk H
            clear H
            go_wp2
            go_loopg [4] kj12 (fun kq v4 w' => ∃ (x4_4 : List (S26)), Aside0 (spec_bdBand.l2 kq t2267 x4_4 x5_1 (x4_1.length : Int) (t2267.length : Int) x23_2 x2275000_12 x2275001_12 = some r) ∧ Aside0 (kq ≤ kj12) ∧ Aside0 (Kd.R k26 26 w' w.heap.size (fun k_ => some k_ ≠ (v4 : Value).ownBlock ∧ k_ ≠ gb2274) (.slice (some ad2273) t2267.length co7) t2267) ∧ Aside0 (Kd.R k26 26 w' w.heap.size (fun k_ => some k_ ≠ ((.slice (some ad2273) t2267.length co7) : Value).ownBlock ∧ k_ ≠ gb2274) v4 x4_4) ∧ Aside0 (w'.heap[gb2274]? = some (.cells #[.int .i64 x2275000_12, .int .i64 x2275001_12] 26 (0, 0))) ∧ Aside0 (Below w.heap.size w w'))
            case atStart => exact ⟨(x4_2), H', ⟨Nat.le_refl _⟩, ⟨by (with_reducible repeat (first | apply Kd.R_alloc | apply Kd.R_drewN | apply Kd.R_drew)); exact HO_3.out⟩, ⟨by (with_reducible repeat (first | apply Kd.R_alloc | apply Kd.R_drewN | apply Kd.R_drew)); exact HO_4.out⟩, ⟨zk⟩, ⟨zb⟩⟩
            case round =>
             clear H'
             try clear c1
             try clear c2
             try clear p2
             try clear q2
             try clear hx2
             try clear c3
             try clear c3b0
             try clear c3b1
             try clear p6
             try clear c8
             try clear c8b0
             try clear c10
             try clear c10b0
             try clear c11
             try clear c11b0
             try clear c12
             try clear c12b0
             try clear c16
             try clear c16b0
             try clear c16b1
             try clear c18
             try clear c18b0
             try clear c19
             try clear c19b0
             try clear hcz15_0
             try clear hcz15_1
             try clear hcz20_0
             try clear hcz20_1
             try clear hfz15_0
             try clear hfz15_1
             try clear hfz20_0
             try clear hfz20_1
             try clear hx2273_0
             try clear hx2273_1
             try clear hx2275_0
             try clear hx2275_1
             try clear p2
             try clear p2273
             try clear p2275
             try clear p6
             try clear q2
             try clear q2273
             try clear q2275
             obtain ⟨x4_4, HA, HK4, HO_3, HO_4, BK2274, HB⟩ := hrel
             cases gk with
             | zero => exact absurd HA.out (by simp [spec_bdBand.l2])
             | succ k4 =>
              have H := HA.out
              clear HA
              simp only [spec_bdBand.l2] at H
              by_cases c21 : (x4_4.length : Int) > (wrap64 ((x4_1.length : Int) + 1))
              ·rw [if_pos c21] at H
               have c21b0 : decide ((wrap64 ((x4_1.length : Int) + 1)) < (x4_4.length : Int)) = true := decide_eq_true c21
               clear c21
               obtain ⟨ji22, hji22⟩ : ∃ j_ : Int, (wrap64 ((x4_4.length : Int) - 2)) = j_ := ⟨_, rfl⟩
               replace H : (if 0 ≤ (ji22) then (if (ji22) < (x4_4.length : Int) then (if 0 ≤ (wrap64 ((x4_4.length : Int) - 1)) then (if (wrap64 ((x4_4.length : Int) - 1)) < (x4_4.length : Int) then ((spec_pgTurn.f ((rd_T26 x4_4 (ji22)).f0) ((rd_T26 x4_4 (ji22)).f1) ((rd_T26 x4_4 (wrap64 ((x4_4.length : Int) - 1))).f0) ((rd_T26 x4_4 (wrap64 ((x4_4.length : Int) - 1))).f1) x2275000_12 x2275001_12).bind fun t2278 => (if t2278 ≤ 0 then (if (wrap64 ((x4_4.length : Int) - 1)) ≤ (x4_4.length : Int) then (spec_bdBand.l2 k4 t2267 (x4_4.take ((wrap64 ((x4_4.length : Int) - 1)) : Int).toNat) x5_1 (x4_1.length : Int) (t2267.length : Int) x23_2 x2275000_12 x2275001_12) else (none)) else (if x4_4.length < 8796093022208 then (spec_bdBand.l1 k4 t2267 (x4_4 ++ [(⟨x2275000_12, x2275001_12⟩ : S26)]) x5_1 (x4_1.length : Int) (t2267.length : Int) (wrap64 (x23_2 + 1))) else (none)))) else (none)) else (none)) else (none)) else (none)) = some r := by first | (rw [hji22] at H; exact H) | (simp only [hji22] at H ⊢; exact H)
               have hji22w : (IntKind.i64.wrap ((x4_4.length : Int) - 2)) = ji22 := (i64_w _).trans hji22
               by_cases c23 : 0 ≤ (ji22)
               ·rw [if_pos c23] at H
                have c23b0 : decide (0 ≤ (ji22)) = true := decide_eq_true c23
                clear c23
                by_cases c24 : (ji22) < (x4_4.length : Int)
                ·rw [if_pos c24] at H
                 have c24b0 : decide ((ji22) < (x4_4.length : Int)) = true := decide_eq_true c24
                 clear c24
                 obtain ⟨ji25, hji25⟩ : ∃ j_ : Int, (wrap64 ((x4_4.length : Int) - 1)) = j_ := ⟨_, rfl⟩
                 replace H : (if 0 ≤ (ji25) then (if (ji25) < (x4_4.length : Int) then ((spec_pgTurn.f ((rd_T26 x4_4 (ji22)).f0) ((rd_T26 x4_4 (ji22)).f1) ((rd_T26 x4_4 (ji25)).f0) ((rd_T26 x4_4 (ji25)).f1) x2275000_12 x2275001_12).bind fun t2278 => (if t2278 ≤ 0 then (if (ji25) ≤ (x4_4.length : Int) then (spec_bdBand.l2 k4 t2267 (x4_4.take ((ji25) : Int).toNat) x5_1 (x4_1.length : Int) (t2267.length : Int) x23_2 x2275000_12 x2275001_12) else (none)) else (if x4_4.length < 8796093022208 then (spec_bdBand.l1 k4 t2267 (x4_4 ++ [(⟨x2275000_12, x2275001_12⟩ : S26)]) x5_1 (x4_1.length : Int) (t2267.length : Int) (wrap64 (x23_2 + 1))) else (none)))) else (none)) else (none)) = some r := by first | (rw [hji25] at H; exact H) | (simp only [hji25] at H ⊢; exact H)
                 have hji25w : (IntKind.i64.wrap ((x4_4.length : Int) - 1)) = ji25 := (i64_w _).trans hji25
                 by_cases c26 : 0 ≤ (ji25)
                 ·rw [if_pos c26] at H
                  have c26b0 : decide (0 ≤ (ji25)) = true := decide_eq_true c26
                  clear c26
                  by_cases c27 : (ji25) < (x4_4.length : Int)
                  ·rw [if_pos c27] at H
                   have c27b0 : decide ((ji25) < (x4_4.length : Int)) = true := decide_eq_true c27
                   clear c27
                   replace H := Option.bind_eq_some_iff.mp H
                   obtain ⟨t2278, A280, H⟩ := H
                   replace H : (if t2278 ≤ 0 then (if (ji25) ≤ (x4_4.length : Int) then (spec_bdBand.l2 k4 t2267 (x4_4.take ((ji25) : Int).toNat) x5_1 (x4_1.length : Int) (t2267.length : Int) x23_2 x2275000_12 x2275001_12) else (none)) else (if x4_4.length < 8796093022208 then (spec_bdBand.l1 k4 t2267 (x4_4 ++ [(⟨x2275000_12, x2275001_12⟩ : S26)]) x5_1 (x4_1.length : Int) (t2267.length : Int) (wrap64 (x23_2 + 1))) else (none))) = some r := H
                   have A28 := Aside0.mk A280
                   clear A280
                   by_cases c29 : t2278 ≤ 0
                   ·rw [if_pos c29] at H
                    have c29b0 : decide (t2278 ≤ 0) = true := decide_eq_true c29
                    clear c29
                    by_cases c30 : (ji25) ≤ (x4_4.length : Int)
                    ·rw [if_pos c30] at H
                     have c30b0 := eq_true c30
                     have c30b1 : decide ((ji25) ≤ (x4_4.length : Int)) = true := decide_eq_true c30
                     clear c30
                     obtain ⟨y2279, hy2279⟩ : ∃ y_ : List (S26), y_ = (x4_4.take ((ji25) : Int).toNat) := ⟨_, rfl⟩
                     replace H : (spec_bdBand.l2 k4 t2267 y2279 x5_1 (x4_1.length : Int) (t2267.length : Int) x23_2 x2275000_12 x2275001_12) = some r := by first | (rw [hy2279]; with_reducible exact H) | (have H2_ := (Option.bind_some _ _).symm.trans H; rw [hy2279]; with_reducible exact H2_) | (have H2_ := (Option.bind_some _ _).symm.trans H; with_reducible exact H2_) | with_reducible exact H | (rw [hy2279]; exact H) | exact H
                     have Ny2279 := Aside0.mk hy2279
                     clear hy2279
                     have H' := Aside0.mk H
                     clear H
                     try go_wp2
                     have n0_ := Aside0.mk (Kd.R_drew HO_3.out)
                     have n1_ := Aside0.mk (Kd.R_drew HO_4.out)
                     have n2_ := Aside0.mk (blk_drew BK2274.out)
                     have n3_ := Aside0.mk (below_drew1 HB.out)
                     clear HO_3
                     clear HO_4
                     clear BK2274
                     clear HB
                     have HO_3 := n0_
                     have HO_4 := n1_
                     have BK2274 := n2_
                     have HB := n3_
                     clear n0_ n1_ n2_ n3_
                     obtain ⟨Ao32, co32, eo32⟩ := Kd.R_slice HO_4.out
                     (first | subst eo32 | (injection eo32 with f1_ f2_ f3_; have f4_ := f1_.symm; have f5_ := f3_.symm; clear f1_ f2_ f3_; subst f4_; subst f5_))
                     have p2276 : 0 ≤ ((ji22) : Int) := of_decide_eq_true (by first | (with_reducible assumption) | assumption)
                     have q2276 : (ji22) < (x4_4.length : Int) := of_decide_eq_true (by first | (with_reducible assumption) | assumption)
                     obtain ⟨ad2276, e2276, hx2276_0, hx2276_1⟩ := at_T26 (Kd.R_reads' HO_4.out).2.2 (ji22) p2276 q2276
                     cases e2276
                     replace p2276 := eq_true p2276
                     replace q2276 := eq_true q2276
                     have p2277 : 0 ≤ ((ji25) : Int) := of_decide_eq_true (by first | (with_reducible assumption) | assumption)
                     have q2277 : (ji25) < (x4_4.length : Int) := of_decide_eq_true (by first | (with_reducible assumption) | assumption)
                     obtain ⟨ad2277, e2277, hx2277_0, hx2277_1⟩ := at_T26 (Kd.R_reads' HO_4.out).2.2 (ji25) p2277 q2277
                     obtain rfl : ad2276 = ad2277 := (by injection e2277)
                     replace p2277 := eq_true p2277
                     replace q2277 := eq_true q2277
                     refine start_ (n := 22) (S := fun w' => w'.cell? ⟨gb2274, 0, none⟩ = some (.int .i64 x2275000_12) ∧ w'.cell? ⟨gb2274, 1, none⟩ = some (.int .i64 x2275001_12) ∧ w'.cell? (ad2276.add (((ji22)).toNat * 2)) = some (.int .i64 ((rd_T26 x4_4 (ji22)).f0)) ∧ w'.cell? ⟨(ad2276.add (((ji22)).toNat * 2)).block, (ad2276.add (((ji22)).toNat * 2)).off + 1, none⟩ = some (.int .i64 ((rd_T26 x4_4 (ji22)).f1)) ∧ w'.cell? (ad2276.add (((ji25)).toNat * 2)) = some (.int .i64 ((rd_T26 x4_4 (ji25)).f0)) ∧ w'.cell? ⟨(ad2276.add (((ji25)).toNat * 2)).block, (ad2276.add (((ji25)).toNat * 2)).off + 1, none⟩ = some (.int .i64 ((rd_T26 x4_4 (ji25)).f1))) (ds := []) (zl 22 0) (by kernel_rfl) rfl rfl ⟨(blk_cell BK2274.out 0).trans rfl, (blk_cell BK2274.out 1).trans rfl, hx2276_0, hx2276_1, hx2277_0, hx2277_1⟩ (fun hHeld => ?_); refine with_tabW spec_bdBand.tab15 spec_bdBand.bits15 (fun HT_ HW_ => ?_)
                     generalize wr.drew = w31 at HO_3 HO_4 BK2274 HB hx2276_0 hx2276_1 hx2277_0 hx2277_1 hHeld ⊢
                     refine zp 0 40 22 1 HT_ ?_
                     refine zp 1 41 22 3 HT_ ?_
                     refine zp 2 42 22 7 HT_ ?_
                     refine zp 3 43 22 15 HT_ ?_
                     refine zp 4 44 22 31 HT_ ?_
                     refine zp 5 45 22 63 HT_ ?_
                     refine zp 6 46 22 127 HT_ ?_
                     refine zp 7 47 22 255 HT_ ?_
                     refine zp 8 48 22 511 HT_ ?_
                     refine zp 9 49 22 1023 HT_ ?_
                     refine zp 10 50 22 2047 HT_ ?_
                     refine zp 12 52 22 6143 HT_ ?_
                     refine zp 13 53 22 14335 HT_ ?_
                     refine zp 14 54 22 30719 HT_ ?_
                     refine zp 15 55 22 63487 HT_ ?_
                     refine zp 16 56 22 129023 HT_ ?_
                     refine take_ (i := 11) (N := some 51) (v := ?_) (a' := ?_) (zl 22 131071) rfl rfl (take_ofW HT_.out HW_.out (by kernel_rfl)) (fun _ _ _ h => h) (Or.inl ⟨by rfl, ?_⟩) hHeld ?_ ?_
                     rotate_left
                     ·rintro w' ⟨s0, s1, s2, s3, s4, s5⟩
                      go_simp
                      with_reducible rfl
                     rotate_left
                     ·exact zs
                     refine take_ (i := 17) (N := some 57) (v := ?_) (a' := ?_) (zl 22 262143) rfl rfl (take_ofW HT_.out HW_.out (by kernel_rfl)) (fun _ _ _ h => h) (Or.inl ⟨by rfl, ?_⟩) hHeld ?_ ?_
                     rotate_left
                     ·rintro w' ⟨s0, s1, s2, s3, s4, s5⟩
                      go_simp
                      with_reducible rfl
                     rotate_left
                     ·exact zs
                     refine take_ (i := 18) (N := some 58) (v := ?_) (a' := ?_) (zl 22 524287) rfl rfl (take_ofW HT_.out HW_.out (by kernel_rfl)) (fun _ _ _ h => h) (Or.inl ⟨by rfl, ?_⟩) hHeld ?_ ?_
                     rotate_left
                     ·rintro w' ⟨s0, s1, s2, s3, s4, s5⟩
                      go_simp
                      with_reducible rfl
                     rotate_left
                     ·exact zs
                     refine one_ (i := 19) (N := some 59) (zl 22 1048575) rfl rfl (one_of HT_.out (by kernel_rfl)) (by decide) (fun K hK => ?_)
                     refine goes_ Try.func211 (by kernel_rfl) rfl #[.agg #[.int .i64 ((rd_T26 x4_4 (ji22)).f0), .int .i64 ((rd_T26 x4_4 (ji22)).f1)], .agg #[.int .i64 ((rd_T26 x4_4 (ji25)).f0), .int .i64 ((rd_T26 x4_4 (ji25)).f1)], .agg #[.int .i64 x2275000_12, .int .i64 x2275001_12]] (by rfl) rfl rfl (by (try simp only [List.map_toArray, List.map_cons, List.map_nil]); first | done | (simp only [hji22, hji25]; rfl) | rfl | (simp only [List.length_drop, List.length_take]; rfl)) ?_
                     with_reducible refine (spec_pgTurn.calls ((rd_T26 x4_4 (ji22)).f0) ((rd_T26 x4_4 (ji22)).f1) ((rd_T26 x4_4 (ji25)).f0) ((rd_T26 x4_4 (ji25)).f1) x2275000_12 x2275001_12 t2278 _ A28.out).mono ?_
                     rintro e w33 ⟨rfl, hb⟩
                     have HS2_ := (hb.cell (World.block_lt_of_cell? _ _ (hHeld.2.2.1))).trans (hHeld.2.2.1)
                     have HS3_ := (hb.cell (World.block_lt_of_cell? _ _ (hHeld.2.2.2.1))).trans (hHeld.2.2.2.1)
                     have HS4_ := (hb.cell (World.block_lt_of_cell? _ _ (hHeld.2.2.2.2.1))).trans (hHeld.2.2.2.2.1)
                     have HS5_ := (hb.cell (World.block_lt_of_cell? _ _ (hHeld.2.2.2.2.2))).trans (hHeld.2.2.2.2.2)
                     refine ⟨_, rfl, ?_⟩
                     have n0_ := Aside0.mk (Kd.R_below (by (with_reducible repeat (first | apply Kd.R_alloc | apply Kd.R_drewN | apply Kd.R_drew)); exact HO_3.out) hb)
                     have n1_ := Aside0.mk (Kd.R_below (by (with_reducible repeat (first | apply Kd.R_alloc | apply Kd.R_drewN | apply Kd.R_drew)); exact HO_4.out) hb)
                     have n2_ := Aside0.mk (blk_below (g := gb2274) (o := .cells #[.int .i64 x2275000_12, .int .i64 x2275001_12] 26 (0, 0)) zk hb)
                     have n3_ := Aside0.mk (below_step zb hb)
                     clear HO_3
                     clear HO_4
                     clear BK2274
                     clear HB
                     have HO_3 := n0_
                     have HO_4 := n1_
                     have BK2274 := n2_
                     have HB := n3_
                     clear n0_ n1_ n2_ n3_
                     (try clear hb)
                     (try clear hb2)
                     (try clear hk)
                     (try clear hi)
                     refine hK.out _ _ ⟨(blk_cell BK2274.out 0).trans rfl, (blk_cell BK2274.out 1).trans rfl, HS2_, HS3_, HS4_, HS5_⟩ (fun hHeld => ?_)
                     clear hK K
                     refine norm_ (a' := ?_) ?_ ?_
                     rotate_left
                     ·show Act.put _ (some 59) _ = _
                      exact zs
                     refine zp 20 60 22 2097151 HT_ ?_
                     refine zp 21 61 22 4194303 HT_ ?_
                     refine done_ (done_of HT_.out (by kernel_rfl)) ?_
                     have q34 : ((ji25) : Int) ≤ ((x4_4.length : Int) : Int) := of_decide_eq_true (by first | (with_reducible assumption) | assumption)
                     obtain ⟨i034, hi034, _, hsz34, _⟩ := info_parts info26
                     have hcut34 := cut_to (P := Try.prog) 24 26 .i64 Try.underlying24 hi034 (some ad2276) x4_4.length co32 (ji25) (of_decide_eq_true (by first | (with_reducible assumption) | assumption)) q34 (Kd.R_reads' HO_4.out).2.1
                     have hr34 := Kd.R_take (m := ((ji25) : Int).toNat) HO_4.out (by omega)
                     have hy34 : y2279.length = ((ji25) : Int).toNat := (by rw [Ny2279.out, List.length_take]; omega)
                     rw [← Ny2279.out] at hr34
                     rw [← hy34] at hr34 hcut34
                     clear hy34 hi034 hsz34 HO_4
                     have HO2281 := Aside0.mk hr34
                     clear hr34
                     replace q34 := eq_true q34
                     try go_wp2
                     go_roundg k4
                     case measure => have := HK1.out; have := HK2.out; have := HJ12.out; have := HK4.out; omega
                     case rel => exact ⟨(y2279), H', ⟨by have := HK1.out; have := HK2.out; have := HJ12.out; have := HK4.out; omega⟩, ⟨by (with_reducible repeat (first | apply Kd.R_alloc | apply Kd.R_drewN | apply Kd.R_drew)); first | exact HO_3.out | exact Kd.R_mono HO_3.out (fun k hk he => hk (he.trans (YtphpdfcblchpnaaH.zown _ _ _ _ _)))⟩, ⟨by (with_reducible repeat (first | apply Kd.R_alloc | apply Kd.R_drewN | apply Kd.R_drew)); exact HO2281.out⟩, ⟨zk⟩, ⟨zb⟩⟩
                    ·rw [if_neg c30] at H
                     exact absurd H (by simp)
                   ·rw [if_neg c29] at H
                    have c29b0 : decide (t2278 ≤ 0) = false := decide_eq_false c29
                    clear c29
                    by_cases c35 : x4_4.length < 8796093022208
                    ·rw [if_pos c35] at H
                     have LMc35 := Aside0.mk c35
                     clear c35
                     obtain ⟨y2282, hy2282⟩ : ∃ y_ : List (S26), y_ = (x4_4 ++ [(⟨x2275000_12, x2275001_12⟩ : S26)]) := ⟨_, rfl⟩
                     replace H : (spec_bdBand.l1 k4 t2267 y2282 x5_1 (x4_1.length : Int) (t2267.length : Int) (wrap64 (x23_2 + 1))) = some r := by first | (rw [hy2282]; with_reducible exact H) | (have H2_ := (Option.bind_some _ _).symm.trans H; rw [hy2282]; with_reducible exact H2_) | (have H2_ := (Option.bind_some _ _).symm.trans H; with_reducible exact H2_) | with_reducible exact H | (rw [hy2282]; exact H) | exact H
                     have Ny2282 := Aside0.mk hy2282
                     clear hy2282
                     have H' := Aside0.mk H
                     clear H
                     try go_wp2
                     have n0_ := Aside0.mk (Kd.R_drew HO_3.out)
                     have n1_ := Aside0.mk (Kd.R_drew HO_4.out)
                     have n2_ := Aside0.mk (blk_drew BK2274.out)
                     have n3_ := Aside0.mk (below_drew1 HB.out)
                     clear HO_3
                     clear HO_4
                     clear BK2274
                     clear HB
                     have HO_3 := n0_
                     have HO_4 := n1_
                     have BK2274 := n2_
                     have HB := n3_
                     clear n0_ n1_ n2_ n3_
                     obtain ⟨Ao37, co37, eo37⟩ := Kd.R_slice HO_4.out
                     (first | subst eo37 | (injection eo37 with f1_ f2_ f3_; have f4_ := f1_.symm; have f5_ := f3_.symm; clear f1_ f2_ f3_; subst f4_; subst f5_))
                     have p2276 : 0 ≤ ((ji22) : Int) := of_decide_eq_true (by first | (with_reducible assumption) | assumption)
                     have q2276 : (ji22) < (x4_4.length : Int) := of_decide_eq_true (by first | (with_reducible assumption) | assumption)
                     obtain ⟨ad2276, e2276, hx2276_0, hx2276_1⟩ := at_T26 (Kd.R_reads' HO_4.out).2.2 (ji22) p2276 q2276
                     cases e2276
                     replace p2276 := eq_true p2276
                     replace q2276 := eq_true q2276
                     have p2277 : 0 ≤ ((ji25) : Int) := of_decide_eq_true (by first | (with_reducible assumption) | assumption)
                     have q2277 : (ji25) < (x4_4.length : Int) := of_decide_eq_true (by first | (with_reducible assumption) | assumption)
                     obtain ⟨ad2277, e2277, hx2277_0, hx2277_1⟩ := at_T26 (Kd.R_reads' HO_4.out).2.2 (ji25) p2277 q2277
                     obtain rfl : ad2276 = ad2277 := (by injection e2277)
                     replace p2277 := eq_true p2277
                     replace q2277 := eq_true q2277
                     refine start_ (n := 22) (S := fun w' => w'.cell? ⟨gb2274, 0, none⟩ = some (.int .i64 x2275000_12) ∧ w'.cell? ⟨gb2274, 1, none⟩ = some (.int .i64 x2275001_12) ∧ w'.cell? (ad2276.add (((ji22)).toNat * 2)) = some (.int .i64 ((rd_T26 x4_4 (ji22)).f0)) ∧ w'.cell? ⟨(ad2276.add (((ji22)).toNat * 2)).block, (ad2276.add (((ji22)).toNat * 2)).off + 1, none⟩ = some (.int .i64 ((rd_T26 x4_4 (ji22)).f1)) ∧ w'.cell? (ad2276.add (((ji25)).toNat * 2)) = some (.int .i64 ((rd_T26 x4_4 (ji25)).f0)) ∧ w'.cell? ⟨(ad2276.add (((ji25)).toNat * 2)).block, (ad2276.add (((ji25)).toNat * 2)).off + 1, none⟩ = some (.int .i64 ((rd_T26 x4_4 (ji25)).f1))) (ds := []) (zl 22 0) (by kernel_rfl) rfl rfl ⟨(blk_cell BK2274.out 0).trans rfl, (blk_cell BK2274.out 1).trans rfl, hx2276_0, hx2276_1, hx2277_0, hx2277_1⟩ (fun hHeld => ?_); refine with_tabW spec_bdBand.tab15 spec_bdBand.bits15 (fun HT_ HW_ => ?_)
                     generalize wr.drew = w36 at HO_3 HO_4 BK2274 HB hx2276_0 hx2276_1 hx2277_0 hx2277_1 hHeld ⊢
                     refine zp 0 40 22 1 HT_ ?_
                     refine zp 1 41 22 3 HT_ ?_
                     refine zp 2 42 22 7 HT_ ?_
                     refine zp 3 43 22 15 HT_ ?_
                     refine zp 4 44 22 31 HT_ ?_
                     refine zp 5 45 22 63 HT_ ?_
                     refine zp 6 46 22 127 HT_ ?_
                     refine zp 7 47 22 255 HT_ ?_
                     refine zp 8 48 22 511 HT_ ?_
                     refine zp 9 49 22 1023 HT_ ?_
                     refine zp 10 50 22 2047 HT_ ?_
                     refine zp 12 52 22 6143 HT_ ?_
                     refine zp 13 53 22 14335 HT_ ?_
                     refine zp 14 54 22 30719 HT_ ?_
                     refine zp 15 55 22 63487 HT_ ?_
                     refine zp 16 56 22 129023 HT_ ?_
                     refine take_ (i := 11) (N := some 51) (v := ?_) (a' := ?_) (zl 22 131071) rfl rfl (take_ofW HT_.out HW_.out (by kernel_rfl)) (fun _ _ _ h => h) (Or.inl ⟨by rfl, ?_⟩) hHeld ?_ ?_
                     rotate_left
                     ·rintro w' ⟨s0, s1, s2, s3, s4, s5⟩
                      go_simp
                      with_reducible rfl
                     rotate_left
                     ·exact zs
                     refine take_ (i := 17) (N := some 57) (v := ?_) (a' := ?_) (zl 22 262143) rfl rfl (take_ofW HT_.out HW_.out (by kernel_rfl)) (fun _ _ _ h => h) (Or.inl ⟨by rfl, ?_⟩) hHeld ?_ ?_
                     rotate_left
                     ·rintro w' ⟨s0, s1, s2, s3, s4, s5⟩
                      go_simp
                      with_reducible rfl
                     rotate_left
                     ·exact zs
                     refine take_ (i := 18) (N := some 58) (v := ?_) (a' := ?_) (zl 22 524287) rfl rfl (take_ofW HT_.out HW_.out (by kernel_rfl)) (fun _ _ _ h => h) (Or.inl ⟨by rfl, ?_⟩) hHeld ?_ ?_
                     rotate_left
                     ·rintro w' ⟨s0, s1, s2, s3, s4, s5⟩
                      go_simp
                      with_reducible rfl
                     rotate_left
                     ·exact zs
                     refine one_ (i := 19) (N := some 59) (zl 22 1048575) rfl rfl (one_of HT_.out (by kernel_rfl)) (by decide) (fun K hK => ?_)
                     refine goes_ Try.func211 (by kernel_rfl) rfl #[.agg #[.int .i64 ((rd_T26 x4_4 (ji22)).f0), .int .i64 ((rd_T26 x4_4 (ji22)).f1)], .agg #[.int .i64 ((rd_T26 x4_4 (ji25)).f0), .int .i64 ((rd_T26 x4_4 (ji25)).f1)], .agg #[.int .i64 x2275000_12, .int .i64 x2275001_12]] (by rfl) rfl rfl (by (try simp only [List.map_toArray, List.map_cons, List.map_nil]); first | done | (simp only [hji22, hji25]; rfl) | rfl | (simp only [List.length_drop, List.length_take]; rfl)) ?_
                     with_reducible refine (spec_pgTurn.calls ((rd_T26 x4_4 (ji22)).f0) ((rd_T26 x4_4 (ji22)).f1) ((rd_T26 x4_4 (ji25)).f0) ((rd_T26 x4_4 (ji25)).f1) x2275000_12 x2275001_12 t2278 _ A28.out).mono ?_
                     rintro e w38 ⟨rfl, hb⟩
                     have HS2_ := (hb.cell (World.block_lt_of_cell? _ _ (hHeld.2.2.1))).trans (hHeld.2.2.1)
                     have HS3_ := (hb.cell (World.block_lt_of_cell? _ _ (hHeld.2.2.2.1))).trans (hHeld.2.2.2.1)
                     have HS4_ := (hb.cell (World.block_lt_of_cell? _ _ (hHeld.2.2.2.2.1))).trans (hHeld.2.2.2.2.1)
                     have HS5_ := (hb.cell (World.block_lt_of_cell? _ _ (hHeld.2.2.2.2.2))).trans (hHeld.2.2.2.2.2)
                     refine ⟨_, rfl, ?_⟩
                     have n0_ := Aside0.mk (Kd.R_below (by (with_reducible repeat (first | apply Kd.R_alloc | apply Kd.R_drewN | apply Kd.R_drew)); exact HO_3.out) hb)
                     have n1_ := Aside0.mk (Kd.R_below (by (with_reducible repeat (first | apply Kd.R_alloc | apply Kd.R_drewN | apply Kd.R_drew)); exact HO_4.out) hb)
                     have n2_ := Aside0.mk (blk_below (g := gb2274) (o := .cells #[.int .i64 x2275000_12, .int .i64 x2275001_12] 26 (0, 0)) zk hb)
                     have n3_ := Aside0.mk (below_step zb hb)
                     clear HO_3
                     clear HO_4
                     clear BK2274
                     clear HB
                     have HO_3 := n0_
                     have HO_4 := n1_
                     have BK2274 := n2_
                     have HB := n3_
                     clear n0_ n1_ n2_ n3_
                     (try clear hb)
                     (try clear hb2)
                     (try clear hk)
                     (try clear hi)
                     refine hK.out _ _ ⟨(blk_cell BK2274.out 0).trans rfl, (blk_cell BK2274.out 1).trans rfl, HS2_, HS3_, HS4_, HS5_⟩ (fun hHeld => ?_)
                     clear hK K
                     refine norm_ (a' := ?_) ?_ ?_
                     rotate_left
                     ·show Act.put _ (some 59) _ = _
                      exact zs
                     refine zp 20 60 22 2097151 HT_ ?_
                     refine zp 21 61 22 4194303 HT_ ?_
                     refine done_ (done_of HT_.out (by kernel_rfl)) ?_
                     have hcz39_0 : w38.cell? ⟨gb2274, 0, none⟩ = some (.int .i64 x2275000_12) := (blk_cell BK2274.out 0).trans rfl
                     have hcz39_1 : w38.cell? ⟨gb2274, 1, none⟩ = some (.int .i64 x2275001_12) := (blk_cell BK2274.out 1).trans rfl
                     have hfz39_0 := blk_frozen BK2274.out 0
                     have hfz39_1 := blk_frozen BK2274.out 1
                     try go_wp2_with (first | ((with_reducible refine gate_builtin (b := .append) (xs := #[.tmp 67, .tmp 69]) rfl ?_); (try (refine gate_guard (by rfl) ?_; dsimp only)); at_builtin; refine Kd.R_append k26 (w0 := w) w.heap.size rfl (.tmp 67) (.tmp 69) 24 26 (.agg #[(.int .i64 0), (.int .i64 0)]) 16 rfl Try.underlying24 info26 rfl (by decide) (by omega) (.slice (some ad2276) x4_4.length co37) x4_4 (⟨x2275000_12, x2275001_12⟩ : S26) [.int .i64 x2275000_12, .int .i64 x2275001_12] (fun k_ => some k_ ≠ (.slice (some ad2273) t2267.length co7 : Value).ownBlock ∧ k_ ≠ gb2274) (fun _ => False) rfl rfl ?aP (fun _ hk => hk.elim) ?aF ?aO ?aB ?aS ?aL ?_; (case aP => exact k26_mkM _ _ _ (⟨x2275000_12, x2275001_12⟩ : S26)); (case aB => exact zb); (case aF => exact (fun k_ hk => ⟨Kd.fresh' (Kd.R_lt (by (with_reducible repeat (first | apply Kd.R_alloc | apply Kd.R_drewN | apply Kd.R_drew)); exact HO_3.out)) k_ hk, Kd.freshB (g := gb2274) (o := .cells #[.int .i64 x2275000_12, .int .i64 x2275001_12] 26 (0, 0)) zk k_ hk⟩)); (case aO => exact (by (with_reducible repeat (first | apply Kd.R_alloc | apply Kd.R_drewN | apply Kd.R_drew)); exact HO_4.out)); (case aS => exact (below_size zb)); (case aL => have := LMc35.out; omega); intro v2283 w40 ho hb hg hat; rw [← Ny2282.out] at ho; have n0_ := Aside0.mk (Kd.R_after (ok := (fun k_ => k_ ≠ gb2274)) (by (with_reducible repeat (first | apply Kd.R_alloc | apply Kd.R_drewN | apply Kd.R_drew)); exact Kd.R_mono HO_3.out (fun _ hk => ⟨hk.2, hk.1⟩)) hg hat); have n1_ := Aside0.mk (blk_grown (g := gb2274) (o := .cells #[.int .i64 x2275000_12, .int .i64 x2275001_12] 26 (0, 0)) zk hg (Kd.R_away HO_4.out (fun _ hk => hk.2))); have n2_ := Aside0.mk (hb); have n3_ := Aside0.mk (ho); clear HO_3; clear BK2274; clear HB; clear HO_4; have HO_3 := n0_; have BK2274 := n1_; have HB := n2_; have HO2284 := n3_; clear n0_ n1_ n2_ n3_; clear ho hb hg hat))
                     go_roundg k4
                     case measure => have := HK1.out; have := HK2.out; have := HJ12.out; have := HK4.out; omega
                     case rel => exact ⟨(y2282), (wrap64 (x23_2 + 1)), (by first | rfl | (simp; done) | (simp [*]; done)), H', ⟨by have := HK1.out; have := HK2.out; have := HJ12.out; have := HK4.out; omega⟩, ⟨by (with_reducible repeat (first | apply Kd.R_alloc | apply Kd.R_drewN | apply Kd.R_drew)); exact Kd.R_mono HO_3.out (fun _ hk => hk.2)⟩, ⟨by (with_reducible repeat (first | apply Kd.R_alloc | apply Kd.R_drewN | apply Kd.R_drew)); exact Kd.R_mono HO2284.out (fun _ hk => hk.1)⟩, ⟨zb⟩⟩
                    ·rw [if_neg c35] at H
                     exact absurd H (by simp)
                  ·rw [if_neg c27] at H
                   exact absurd H (by simp)
                 ·rw [if_neg c26] at H
                  exact absurd H (by simp)
                ·rw [if_neg c24] at H
                 exact absurd H (by simp)
               ·rw [if_neg c23] at H
                exact absurd H (by simp)
              ·rw [if_neg c21] at H
               have c21b0 : decide ((wrap64 ((x4_1.length : Int) + 1)) < (x4_4.length : Int)) = false := decide_eq_false c21
               clear c21
               by_cases c41 : x4_4.length < 8796093022208
               ·rw [if_pos c41] at H
                have LMc41 := Aside0.mk c41
                clear c41
                obtain ⟨y2285, hy2285⟩ : ∃ y_ : List (S26), y_ = (x4_4 ++ [(⟨x2275000_12, x2275001_12⟩ : S26)]) := ⟨_, rfl⟩
                replace H : (spec_bdBand.l1 k4 t2267 y2285 x5_1 (x4_1.length : Int) (t2267.length : Int) (wrap64 (x23_2 + 1))) = some r := by first | (rw [hy2285]; with_reducible exact H) | (have H2_ := (Option.bind_some _ _).symm.trans H; rw [hy2285]; with_reducible exact H2_) | (have H2_ := (Option.bind_some _ _).symm.trans H; with_reducible exact H2_) | with_reducible exact H | (rw [hy2285]; exact H) | exact H
                have Ny2285 := Aside0.mk hy2285
                clear hy2285
                have H' := Aside0.mk H
                clear H
                try go_wp2
                have n0_ := Aside0.mk (Kd.R_drew HO_3.out)
                have n1_ := Aside0.mk (Kd.R_drew HO_4.out)
                have n2_ := Aside0.mk (blk_drew BK2274.out)
                have n3_ := Aside0.mk (below_drew1 HB.out)
                clear HO_3
                clear HO_4
                clear BK2274
                clear HB
                have HO_3 := n0_
                have HO_4 := n1_
                have BK2274 := n2_
                have HB := n3_
                clear n0_ n1_ n2_ n3_
                obtain ⟨Ao43, co43, eo43⟩ := Kd.R_slice HO_4.out
                (first | subst eo43 | (injection eo43 with f1_ f2_ f3_; have f4_ := f1_.symm; have f5_ := f3_.symm; clear f1_ f2_ f3_; subst f4_; subst f5_))
                refine start_ (n := 22) (S := fun w' => True) (ds := []) (zl 22 0) (by kernel_rfl) rfl rfl trivial (fun hHeld => ?_); refine with_tabW spec_bdBand.tab15 spec_bdBand.bits15 (fun HT_ HW_ => ?_)
                generalize wr.drew = w42 at HO_3 HO_4 BK2274 HB hHeld ⊢
                refine zp 0 40 22 1 HT_ ?_
                refine zp 1 41 22 3 HT_ ?_
                refine zp 2 42 22 7 HT_ ?_
                refine zp 3 43 22 15 HT_ ?_
                refine zp 4 44 22 31 HT_ ?_
                refine zp 5 45 22 63 HT_ ?_
                refine pure_ (i := 6) (N := some 46) (v := undef) (a' := ?_) (zl 22 127) rfl rfl (any_of HT_.out (by kernel_rfl)) (fun _ _ _ h => h) (Or.inr ⟨by rfl, rfl⟩) ?_ ?_
                rotate_left
                ·exact zs
                refine pure_ (i := 7) (N := some 47) (v := undef) (a' := ?_) (zl 22 255) rfl rfl (any_of HT_.out (by kernel_rfl)) (fun _ _ _ h => h) (Or.inr ⟨by rfl, rfl⟩) ?_ ?_
                rotate_left
                ·exact zs
                refine pure_ (i := 8) (N := some 48) (v := undef) (a' := ?_) (zl 22 511) rfl rfl (any_of HT_.out (by kernel_rfl)) (fun _ _ _ h => h) (Or.inr ⟨by rfl, rfl⟩) ?_ ?_
                rotate_left
                ·exact zs
                refine pure_ (i := 9) (N := some 49) (v := undef) (a' := ?_) (zl 22 1023) rfl rfl (any_of HT_.out (by kernel_rfl)) (fun _ _ _ h => h) (Or.inr ⟨by rfl, rfl⟩) ?_ ?_
                rotate_left
                ·exact zs
                refine pure_ (i := 10) (N := some 50) (v := undef) (a' := ?_) (zl 22 2047) rfl rfl (any_of HT_.out (by kernel_rfl)) (fun _ _ _ h => h) (Or.inr ⟨by rfl, rfl⟩) ?_ ?_
                rotate_left
                ·exact zs
                refine pure_ (i := 11) (N := some 51) (v := undef) (a' := ?_) (zl 22 4095) rfl rfl (any_of HT_.out (by kernel_rfl)) (fun _ _ _ h => h) (Or.inr ⟨by rfl, rfl⟩) ?_ ?_
                rotate_left
                ·exact zs
                refine pure_ (i := 12) (N := some 52) (v := undef) (a' := ?_) (zl 22 8191) rfl rfl (any_of HT_.out (by kernel_rfl)) (fun _ _ _ h => h) (Or.inr ⟨by rfl, rfl⟩) ?_ ?_
                rotate_left
                ·exact zs
                refine pure_ (i := 13) (N := some 53) (v := undef) (a' := ?_) (zl 22 16383) rfl rfl (any_of HT_.out (by kernel_rfl)) (fun _ _ _ h => h) (Or.inr ⟨by rfl, rfl⟩) ?_ ?_
                rotate_left
                ·exact zs
                refine pure_ (i := 14) (N := some 54) (v := undef) (a' := ?_) (zl 22 32767) rfl rfl (any_of HT_.out (by kernel_rfl)) (fun _ _ _ h => h) (Or.inr ⟨by rfl, rfl⟩) ?_ ?_
                rotate_left
                ·exact zs
                refine pure_ (i := 15) (N := some 55) (v := undef) (a' := ?_) (zl 22 65535) rfl rfl (any_of HT_.out (by kernel_rfl)) (fun _ _ _ h => h) (Or.inr ⟨by rfl, rfl⟩) ?_ ?_
                rotate_left
                ·exact zs
                refine pure_ (i := 16) (N := some 56) (v := undef) (a' := ?_) (zl 22 131071) rfl rfl (any_of HT_.out (by kernel_rfl)) (fun _ _ _ h => h) (Or.inr ⟨by rfl, rfl⟩) ?_ ?_
                rotate_left
                ·exact zs
                refine pure_ (i := 17) (N := some 57) (v := undef) (a' := ?_) (zl 22 262143) rfl rfl (any_of HT_.out (by kernel_rfl)) (fun _ _ _ h => h) (Or.inr ⟨by rfl, rfl⟩) ?_ ?_
                rotate_left
                ·exact zs
                refine pure_ (i := 18) (N := some 58) (v := undef) (a' := ?_) (zl 22 524287) rfl rfl (any_of HT_.out (by kernel_rfl)) (fun _ _ _ h => h) (Or.inr ⟨by rfl, rfl⟩) ?_ ?_
                rotate_left
                ·exact zs
                refine pure_ (i := 19) (N := some 59) (v := undef) (a' := ?_) (zl 22 1048575) rfl rfl (any_of HT_.out (by kernel_rfl)) (fun _ _ _ h => h) (Or.inr ⟨by rfl, rfl⟩) ?_ ?_
                rotate_left
                ·exact zs
                refine pure_ (i := 20) (N := some 60) (v := undef) (a' := ?_) (zl 22 2097151) rfl rfl (any_of HT_.out (by kernel_rfl)) (fun _ _ _ h => h) (Or.inr ⟨by rfl, rfl⟩) ?_ ?_
                rotate_left
                ·exact zs
                refine zp 21 61 22 4194303 HT_ ?_
                refine done_ (done_of HT_.out (by kernel_rfl)) ?_
                have hcz44_0 : w42.cell? ⟨gb2274, 0, none⟩ = some (.int .i64 x2275000_12) := (blk_cell BK2274.out 0).trans rfl
                have hcz44_1 : w42.cell? ⟨gb2274, 1, none⟩ = some (.int .i64 x2275001_12) := (blk_cell BK2274.out 1).trans rfl
                have hfz44_0 := blk_frozen BK2274.out 0
                have hfz44_1 := blk_frozen BK2274.out 1
                try go_wp2_with (first | ((with_reducible refine gate_builtin (b := .append) (xs := #[.tmp 67, .tmp 69]) rfl ?_); (try (refine gate_guard (by rfl) ?_; dsimp only)); at_builtin; refine Kd.R_append k26 (w0 := w) w.heap.size rfl (.tmp 67) (.tmp 69) 24 26 (.agg #[(.int .i64 0), (.int .i64 0)]) 16 rfl Try.underlying24 info26 rfl (by decide) (by omega) (.slice Ao43 x4_4.length co43) x4_4 (⟨x2275000_12, x2275001_12⟩ : S26) [.int .i64 x2275000_12, .int .i64 x2275001_12] (fun k_ => some k_ ≠ (.slice (some ad2273) t2267.length co7 : Value).ownBlock ∧ k_ ≠ gb2274) (fun _ => False) rfl rfl ?aP (fun _ hk => hk.elim) ?aF ?aO ?aB ?aS ?aL ?_; (case aP => exact k26_mkM _ _ _ (⟨x2275000_12, x2275001_12⟩ : S26)); (case aB => exact zb); (case aF => exact (fun k_ hk => ⟨Kd.fresh' (Kd.R_lt (by (with_reducible repeat (first | apply Kd.R_alloc | apply Kd.R_drewN | apply Kd.R_drew)); exact HO_3.out)) k_ hk, Kd.freshB (g := gb2274) (o := .cells #[.int .i64 x2275000_12, .int .i64 x2275001_12] 26 (0, 0)) zk k_ hk⟩)); (case aO => exact (by (with_reducible repeat (first | apply Kd.R_alloc | apply Kd.R_drewN | apply Kd.R_drew)); exact HO_4.out)); (case aS => exact (below_size zb)); (case aL => have := LMc41.out; omega); intro v2286 w45 ho hb hg hat; rw [← Ny2285.out] at ho; have n0_ := Aside0.mk (Kd.R_after (ok := (fun k_ => k_ ≠ gb2274)) (by (with_reducible repeat (first | apply Kd.R_alloc | apply Kd.R_drewN | apply Kd.R_drew)); exact Kd.R_mono HO_3.out (fun _ hk => ⟨hk.2, hk.1⟩)) hg hat); have n1_ := Aside0.mk (blk_grown (g := gb2274) (o := .cells #[.int .i64 x2275000_12, .int .i64 x2275001_12] 26 (0, 0)) zk hg (Kd.R_away HO_4.out (fun _ hk => hk.2))); have n2_ := Aside0.mk (hb); have n3_ := Aside0.mk (ho); clear HO_3; clear BK2274; clear HB; clear HO_4; have HO_3 := n0_; have BK2274 := n1_; have HB := n2_; have HO2287 := n3_; clear n0_ n1_ n2_ n3_; clear ho hb hg hat))
                go_roundg k4
                case measure => have := HK1.out; have := HK2.out; have := HJ12.out; have := HK4.out; omega
                case rel => exact ⟨(y2285), (wrap64 (x23_2 + 1)), (by first | rfl | (simp; done) | (simp [*]; done)), H', ⟨by have := HK1.out; have := HK2.out; have := HJ12.out; have := HK4.out; omega⟩, ⟨by (with_reducible repeat (first | apply Kd.R_alloc | apply Kd.R_drewN | apply Kd.R_drew)); exact Kd.R_mono HO_3.out (fun _ hk => hk.2)⟩, ⟨by (with_reducible repeat (first | apply Kd.R_alloc | apply Kd.R_drewN | apply Kd.R_drew)); exact Kd.R_mono HO2287.out (fun _ hk => hk.1)⟩, ⟨zb⟩⟩
               ·rw [if_neg c41] at H
                exact absurd H (by simp)
         ·rw [if_neg c12] at H
          exact absurd H (by simp)
        ·rw [if_neg c11] at H
         exact absurd H (by simp)
       ·rw [if_neg c10] at H
        have c10b0 : decide (x23_2 < (t2267.length : Int)) = false := decide_eq_false c10
        clear c10
        obtain ⟨ji46, hji46⟩ : ∃ j_ : Int, (wrap64 ((x4_2.length : Int) - 1)) = j_ := ⟨_, rfl⟩
        replace H : (if 0 ≤ (ji46) then (if (ji46) ≤ (x4_2.length : Int) then (spec_bdBand.l0 k2 t2267 (x4_2.take ((ji46) : Int).toNat) (wrap64 (x5_1 + 1))) else (none)) else (none)) = some r := by first | (rw [hji46] at H; exact H) | (simp only [hji46] at H ⊢; exact H)
        have hji46w : (IntKind.i64.wrap ((x4_2.length : Int) - 1)) = ji46 := (i64_w _).trans hji46
        by_cases c47 : 0 ≤ (ji46)
        ·rw [if_pos c47] at H
         have c47b0 := eq_true c47
         have c47b1 : decide (0 ≤ (ji46)) = true := decide_eq_true c47
         clear c47
         by_cases c48 : (ji46) ≤ (x4_2.length : Int)
         ·rw [if_pos c48] at H
          have c48b0 := eq_true c48
          have c48b1 : decide ((ji46) ≤ (x4_2.length : Int)) = true := decide_eq_true c48
          clear c48
          obtain ⟨y2270, hy2270⟩ : ∃ y_ : List (S26), y_ = (x4_2.take ((ji46) : Int).toNat) := ⟨_, rfl⟩
          replace H : (spec_bdBand.l0 k2 t2267 y2270 (wrap64 (x5_1 + 1))) = some r := by first | (rw [hy2270]; with_reducible exact H) | (have H2_ := (Option.bind_some _ _).symm.trans H; rw [hy2270]; with_reducible exact H2_) | (have H2_ := (Option.bind_some _ _).symm.trans H; with_reducible exact H2_) | with_reducible exact H | (rw [hy2270]; exact H) | exact H
          have Ny2270 := Aside0.mk hy2270
          clear hy2270
          have H' := Aside0.mk H
          clear H
          obtain ⟨Ao49, co49, eo49⟩ := Kd.R_slice HO_4.out
          subst eo49
          have q50 : ((ji46) : Int) ≤ ((x4_2.length : Int) : Int) := of_decide_eq_true (by first | (with_reducible assumption) | assumption)
          obtain ⟨i050, hi050, _, hsz50, _⟩ := info_parts info26
          have hcut50 := cut_to (P := Try.prog) 24 26 .i64 Try.underlying24 hi050 Ao49 x4_2.length co49 (ji46) (of_decide_eq_true (by first | (with_reducible assumption) | assumption)) q50 (Kd.R_reads' HO_4.out).2.1
          have hr50 := Kd.R_take (m := ((ji46) : Int).toNat) HO_4.out (by omega)
          have hy50 : y2270.length = ((ji46) : Int).toNat := (by rw [Ny2270.out, List.length_take]; omega)
          rw [← Ny2270.out] at hr50
          rw [← hy50] at hr50 hcut50
          clear hy50 hi050 hsz50 HO_4
          have HO2272 := Aside0.mk hr50
          clear hr50
          replace q50 := eq_true q50
          go_wp2
          go_roundg k2
          case measure => have := HK1.out; have := HK2.out; omega
          case rel => exact ⟨(y2270), (wrap64 (x5_1 + 1)), (by first | rfl | (simp; done) | (simp [*]; done)), H', ⟨by have := HK1.out; have := HK2.out; omega⟩, ⟨by (with_reducible repeat (first | apply Kd.R_alloc | apply Kd.R_drewN | apply Kd.R_drew)); first | exact HO_3.out | exact Kd.R_mono HO_3.out (fun k hk he => hk (he.trans (YtphpdfcblchpnaaH.zown _ _ _ _ _)))⟩, ⟨by (with_reducible repeat (first | apply Kd.R_alloc | apply Kd.R_drewN | apply Kd.R_drew)); exact HO2272.out⟩, ⟨zb⟩⟩
         ·rw [if_neg c48] at H
          exact absurd H (by simp)
        ·rw [if_neg c47] at H
         exact absurd H (by simp)
    ·rw [if_neg c8] at H
     have c8b0 : decide (x5_1 < 2) = false := decide_eq_false c8
     clear c8
     obtain rfl := Option.some.inj H
     go_wp2
     go_ret
     exact ⟨_, by first | rfl | (simp [errW_none, errW_some] <;> rfl) | (simp [*, errW_none, errW_some] <;> rfl), by (with_reducible repeat (first | apply Kd.R_alloc | apply Kd.R_drewN | apply Kd.R_drew)); exact Kd.R_mono HO_4.out (fun _ hk => trivial), zb⟩
end Go.Proofs.Ytphpdfcblchpnaa.Q
namespace Go.Proofs.Ytphpdfcblchpnaa.Q
open Go.RowKit Go.Proofs.YtphpdfcblchpnaaW.PrintWords Go.Proofs.YtphpdfcblchpnaaW.PrintLast Go.Proofs.YtphpdfcblchpnaaW.PrintMore
attribute [local go_sem] max2_int min2_int max_two min_two max_three min_three max_four min_four   -- for this text's walks alone
set_option linter.unusedVariables false
set_option linter.unusedSimpArgs false
attribute [local go_sem high] eqA26
mutual
def spec_bdOn.l0 : Nat → List (S26) → List (S26) → Int → Int → Int → Int → Option (Bool)
 | 0, _, _, _, _, _, _ => none
 | k + 1, x0, x7, x8, x9, x2289000, x2289001 => if x9 < x8 then (if 0 ≤ x9 then (if x9 < (x7.length : Int) then (if (((rd_T26 x7 x9).f0) == x2289000 && (((rd_T26 x7 x9).f1) == x2289001)) = true then (spec_bdOn.j1 k x0 x7 x8 x9 true x2289000 x2289001) else (if (x0.length : Int) > 1 then (if (x0.length : Int) = 0 then (none) else (if 0 ≤ (Int.tmod (wrap64 (x9 + 1)) (x0.length : Int)) then (if (Int.tmod (wrap64 (x9 + 1)) (x0.length : Int)) < (x0.length : Int) then ((spec_pgOn.f ((rd_T26 x7 x9).f0) ((rd_T26 x7 x9).f1) ((rd_T26 x0 (Int.tmod (wrap64 (x9 + 1)) (x0.length : Int))).f0) ((rd_T26 x0 (Int.tmod (wrap64 (x9 + 1)) (x0.length : Int))).f1) x2289000 x2289001).bind fun t2292 => (spec_bdOn.j1 k x0 x7 x8 x9 t2292 x2289000 x2289001)) else (none)) else (none))) else (spec_bdOn.j1 k x0 x7 x8 x9 false x2289000 x2289001))) else (none)) else (none)) else (some false)
def spec_bdOn.j1 : Nat → List (S26) → List (S26) → Int → Int → Bool → Int → Int → Option (Bool)
 | 0, _, _, _, _, _, _, _ => none
 | k + 1, x0, x7, x8, x9, x34, x2289000, x2289001 => if x34 = true then (some true) else (spec_bdOn.l0 k x0 x7 x8 (wrap64 (x9 + 1)) x2289000 x2289001)
end
def spec_bdOn.f (k : Nat) (l0 : List (S26)) (a1_0 : Int) (a1_1 : Int) : Option (Bool) := spec_bdOn.l0 k l0 l0 (l0.length : Int) 0 a1_0 a1_1
def spec_bdOn.T4 : Bool × List (List Nat × List Nat) := (true, [([], []), ([], []), ([0, 1], [0, 1]), ([2], [2]), ([3], [3]), ([4, 3], [3, 4]), ([5, 3], [3, 5]), ([6, 3, 3], [3, 6]), ([7], [7]), ([7], [7]), ([7], [7]), ([10, 7], [7, 10]), ([7], [7]), ([12, 7], [7, 12]), ([11, 13, 7], [7, 11, 13]), ([9, 14, 7], [7, 9, 14]), ([15, 7], [7, 15]), ([7], [7]), ([8, 16, 17, 7, 7], [7, 8, 16, 17]), ([7, 18, 3], [3, 7, 18]), ([3, 19], [3, 19])])
def spec_bdOn.B4 : List Nat := [0, 0, 3, 7, 15, 31, 63, 127, 255, 255, 255, 1279, 255, 4351, 15615, 32511, 65279, 255, 262143, 524287, 1048575]
theorem spec_bdOn.tab4 : rtab .any (opsOf Try.f290 4) = spec_bdOn.T4 := by kernel_rfl
theorem spec_bdOn.bits4 : waitsOk spec_bdOn.T4.2 spec_bdOn.B4 = true := by kernel_rfl
set_option maxHeartbeats 8000000 in
set_option maxRecDepth 100000 in
theorem spec_bdOn.calls (k : Nat) (A0 : Option Addr) (c0 : Nat) (l0 : List (S26)) (a1_0 : Int) (a1_1 : Int) (r : Bool) (w : World) (hr0 : Kd.C k26 w A0 l0.length l0) (hc0 : l0.length ≤ c0) (h : spec_bdOn.f k l0 a1_0 a1_1 = some r) :
  Calls Try.prog 290 #[.slice A0 l0.length c0, .agg #[.int .i64 a1_0, .int .i64 a1_1]] w fun e w' => e = .returned (.bool r) ∧ Below w.heap.size w w' := by
 have hu26 := Try.underlying26
 have HR0 := Aside0.mk hr0
 have HC0 := Aside0.mk hc0
 clear hr0 hc0
 have HB := Aside0.mk (Below.refl w.heap.size w)
 have H : (spec_bdOn.l0 k l0 l0 (l0.length : Int) 0 a1_0 a1_1) = some r := h
 clear h
 have H' := Aside0.mk H
 clear H
 go_enter Try.func290, Try.ntmps290
 go_wp2_with (first | ((with_reducible refine gate_dst (N := 3) rfl ?_); (try (refine gate_guard (by rfl) ?_; dsimp only)); refine box_event ?hg (N := 3) ?hd (cs := #[.int .i64 a1_0, .int .i64 a1_1]) (t := 26) ?hr ?_; (case hd => rfl); (case hg => rfl); (case hr => first | (go_simp; done) | (go_simp; rfl)); intro gb2288 hg w3 hbox hb; have n0_ := Aside0.mk (below_step zb hb); have n1_ := Aside0.mk (hbox); have n2_ := Aside0.mk ((by rw [hg]; exact (below_size zb) : w.heap.size ≤ gb2288)); have n3_ := Aside0.mk ((by rw [hg]; exact (below_size zb) : w.heap.size ≤ gb2288)); clear HB; have HB := n0_; have BK2288 := n1_; have GW2288 := n2_; have GE2288 := n3_; clear n0_ n1_ n2_ n3_; clear hb hbox hg))
 go_loopg [9] k (fun kq v9 w' => ∃ (x9_1 : Int), v9 = .int .i64 x9_1 ∧ Aside0 (spec_bdOn.l0 kq l0 l0 (l0.length : Int) x9_1 a1_0 a1_1 = some r) ∧ Aside0 (kq ≤ k) ∧ Aside0 (w'.heap[gb2288]? = some (.cells #[.int .i64 a1_0, .int .i64 a1_1] 26 (0, 0))) ∧ Aside0 (Below w.heap.size w w'))
 case atStart => exact ⟨(0), (by first | rfl | (simp; done) | (simp [*]; done)), H', ⟨Nat.le_refl _⟩, ⟨zk⟩, ⟨zb⟩⟩
 case round =>
  clear H'
  try clear c2
  try clear p2
  obtain ⟨x9_1, rfl, HA, HK1, BK2288, HB⟩ := hrel
  cases gk with
  | zero => exact absurd HA.out (by simp [spec_bdOn.l0])
  | succ k1 =>
   have H := HA.out
   clear HA
   simp only [spec_bdOn.l0] at H
   by_cases c4 : x9_1 < (l0.length : Int)
   ·rw [if_pos c4] at H
    have c4b0 : decide (x9_1 < (l0.length : Int)) = true := decide_eq_true c4
    clear c4
    by_cases c5 : 0 ≤ x9_1
    ·rw [if_pos c5] at H
     have c5b0 : decide (0 ≤ x9_1) = true := decide_eq_true c5
     clear c5
     by_cases c6 : x9_1 < (l0.length : Int)
     ·rw [if_pos c6] at H
      have c6b0 : decide (x9_1 < (l0.length : Int)) = true := decide_eq_true c6
      clear c6
      have HC7 := Aside0.mk H
      clear H
      have p2289 : 0 ≤ (x9_1 : Int) := of_decide_eq_true (by first | (with_reducible assumption) | assumption)
      have q2289 : x9_1 < (l0.length : Int) := of_decide_eq_true (by first | (with_reducible assumption) | assumption)
      obtain ⟨ad2289, e2289, hx2289_0, hx2289_1⟩ := at_T26 HR0.out x9_1 p2289 q2289
      cases e2289
      replace hx2289_0 := zc HB hx2289_0
      replace hx2289_1 := zc HB hx2289_1
      replace p2289 := eq_true p2289
      replace q2289 := eq_true q2289
      go_upto_region 4 with (first | ((with_reducible refine gate_dst (N := 6) rfl ?_); (try (refine gate_guard (by rfl) ?_; dsimp only)); refine box_event ?hg (N := 6) ?hd (cs := #[.int .i64 0, .int .i64 0]) (t := 26) ?hr ?_; (case hd => rfl); (case hg => rfl); (case hr => first | (go_simp; done) | (go_simp; rfl)); intro gb2290 hg w8 hbox hb; have n0_ := Aside0.mk (blk_below (g := gb2288) (o := .cells #[.int .i64 a1_0, .int .i64 a1_1] 26 (0, 0)) zk hb); have n1_ := Aside0.mk (below_step zb hb); have n2_ := Aside0.mk (hbox); have n3_ := Aside0.mk ((by rw [hg]; exact (below_size zb) : w.heap.size ≤ gb2290)); have n4_ := Aside0.mk ((by rw [hg]; exact (below_size zb) : w.heap.size ≤ gb2290)); have n5_ := Aside0.mk ((by rw [hg]; exact Nat.ne_of_lt (blk_lt (g := gb2288) (o := .cells #[.int .i64 a1_0, .int .i64 a1_1] 26 (0, 0)) zk) : gb2288 ≠ gb2290)); have n6_ := Aside0.mk ((by rw [hg]; exact Nat.ne_of_gt (blk_lt (g := gb2288) (o := .cells #[.int .i64 a1_0, .int .i64 a1_1] 26 (0, 0)) zk) : gb2290 ≠ gb2288)); clear BK2288; clear HB; have BK2288 := n0_; have HB := n1_; have BK2290 := n2_; have GW2290 := n3_; have GE2290 := n4_; have NB2288_2290 := n5_; have NB2290_2288 := n6_; clear n0_ n1_ n2_ n3_ n4_ n5_ n6_; clear hb hbox hg; have hnb9 := NB2290_2288.out; have hnc9 := NB2288_2290.out; have hcz10_0 : w8.cell? ⟨gb2290, 0, none⟩ = some (.int .i64 0) := (blk_cell BK2290.out 0).trans rfl; have hcz10_1 : w8.cell? ⟨gb2290, 1, none⟩ = some (.int .i64 0) := (blk_cell BK2290.out 1).trans rfl; have hfz10_0 := blk_frozen BK2290.out 0; have hfz10_1 := blk_frozen BK2290.out 1))
      (try simp only [Act.put, List.setIfInBounds_toArray, List.set_cons_zero, List.set_cons_succ])
      go_cut [34] (fun v34 wc => ∃ (kq : Nat) (x34_6 : Bool), v34 = .bool x34_6 ∧ Aside0 (spec_bdOn.j1 kq l0 l0 (l0.length : Int) x9_1 x34_6 a1_0 a1_1 = some r) ∧ Aside0 (kq ≤ k1) ∧ Aside0 (wc.heap[gb2288]? = some (.cells #[.int .i64 a1_0, .int .i64 a1_1] 26 (0, 0))) ∧ Aside0 (wc.heap[gb2290]? = some (.cells #[.int .i64 ((rd_T26 l0 x9_1).f0), .int .i64 ((rd_T26 l0 x9_1).f1)] 26 (0, 0))) ∧ Aside0 (Below w.heap.size w wc))
      case first =>
       have H := HC7.out
       clear HC7
       by_cases c11 : (((rd_T26 l0 x9_1).f0) == a1_0 && (((rd_T26 l0 x9_1).f1) == a1_1)) = true
       ·rw [if_pos c11] at H
        have c11b0 : (((rd_T26 l0 x9_1).f0) == a1_0 && (((rd_T26 l0 x9_1).f1) == a1_1)) = true := c11
        (try (have c11b1 : decide (((rd_T26 l0 x9_1).f0) = a1_0 && (((rd_T26 l0 x9_1).f1) == a1_1)) = true := by simpa using c11))
        (try (have c11b2 : (((rd_T26 l0 x9_1).f0) == a1_0 && (((rd_T26 l0 x9_1).f1) == a1_1)) = true := by simpa using c11))
        clear c11
        (first | rw [c11b0] | (simp only [i64_w, i32_w]; rw [c11b0]) | skip)
        have H' := Aside0.mk H
        clear H
        try go_wp2
        have n0_ : Aside0 (((w8.setCell ⟨gb2290, 0, none⟩ (.int .i64 ((rd_T26 l0 x9_1).f0))).setCell ⟨gb2290, 1, none⟩ (.int .i64 ((rd_T26 l0 x9_1).f1))).heap[gb2288]? = some (.cells #[.int .i64 a1_0, .int .i64 a1_1] 26 (0, 0))) := ⟨by (with_reducible repeat (first | refine blk_drewN ?_ _ | refine blk_drew ?_ | refine blk_alloc ?_ _)); refine blk_far ?_ NB2288_2290.out _; (with_reducible repeat (first | refine blk_drewN ?_ _ | refine blk_drew ?_ | refine blk_alloc ?_ _)); refine blk_far ?_ NB2288_2290.out _; (with_reducible repeat (first | refine blk_drewN ?_ _ | refine blk_drew ?_ | refine blk_alloc ?_ _)); exact BK2288.out⟩
        have n1_ : Aside0 (((w8.setCell ⟨gb2290, 0, none⟩ (.int .i64 ((rd_T26 l0 x9_1).f0))).setCell ⟨gb2290, 1, none⟩ (.int .i64 ((rd_T26 l0 x9_1).f1))).heap[gb2290]? = some (.cells #[.int .i64 ((rd_T26 l0 x9_1).f0), .int .i64 ((rd_T26 l0 x9_1).f1)] 26 (0, 0))) := ⟨by (with_reducible repeat (first | refine blk_drewN ?_ _ | refine blk_drew ?_ | refine blk_alloc ?_ _)); refine blk_put (cs := #[.int .i64 ((rd_T26 l0 x9_1).f0), .int .i64 0]) ?_ 1 _ rfl; (with_reducible repeat (first | refine blk_drewN ?_ _ | refine blk_drew ?_ | refine blk_alloc ?_ _)); refine blk_put (cs := #[.int .i64 0, .int .i64 0]) ?_ 0 _ rfl; (with_reducible repeat (first | refine blk_drewN ?_ _ | refine blk_drew ?_ | refine blk_alloc ?_ _)); exact BK2290.out⟩
        have n2_ : Aside0 (Below w.heap.size w ((w8.setCell ⟨gb2290, 0, none⟩ (.int .i64 ((rd_T26 l0 x9_1).f0))).setCell ⟨gb2290, 1, none⟩ (.int .i64 ((rd_T26 l0 x9_1).f1)))) := ⟨zb⟩
        (try clear BK2288)
        (try clear BK2290)
        (try clear HB)
        generalize ((w8.setCell ⟨gb2290, 0, none⟩ (.int .i64 ((rd_T26 l0 x9_1).f0))).setCell ⟨gb2290, 1, none⟩ (.int .i64 ((rd_T26 l0 x9_1).f1))) = w12 at n0_ n1_ n2_ ⊢
        have BK2288 := n0_
        have BK2290 := n1_
        have HB := n2_
        clear n0_ n1_ n2_
        have n0_ := Aside0.mk (blk_drew BK2288.out)
        have n1_ := Aside0.mk (blk_drew BK2290.out)
        have n2_ := Aside0.mk (below_drew1 HB.out)
        clear BK2288
        clear BK2290
        clear HB
        have BK2288 := n0_
        have BK2290 := n1_
        have HB := n2_
        clear n0_ n1_ n2_
        refine start_ (n := 21) (S := fun w' => w'.cell? ⟨gb2290, 0, none⟩ = some (.int .i64 ((rd_T26 l0 x9_1).f0)) ∧ w'.cell? ⟨gb2290, 1, none⟩ = some (.int .i64 ((rd_T26 l0 x9_1).f1)) ∧ w'.cell? ⟨gb2288, 0, none⟩ = some (.int .i64 a1_0) ∧ w'.cell? ⟨gb2288, 1, none⟩ = some (.int .i64 a1_1)) (ds := []) (zl 21 0) (by kernel_rfl) rfl rfl ⟨(blk_cell BK2290.out 0).trans rfl, (blk_cell BK2290.out 1).trans rfl, (blk_cell BK2288.out 0).trans rfl, (blk_cell BK2288.out 1).trans rfl⟩ (fun hHeld => ?_); refine with_tabW spec_bdOn.tab4 spec_bdOn.bits4 (fun HT_ HW_ => ?_)
        generalize w12.drew = w13 at BK2288 BK2290 HB hHeld ⊢
        refine take_ (i := 0) (N := some 14) (v := ?_) (a' := ?_) (zl 21 1) rfl rfl (take_ofW HT_.out HW_.out (by kernel_rfl)) (fun _ _ _ h => h) (Or.inl ⟨by rfl, ?_⟩) hHeld ?_ ?_
        rotate_left
        ·rintro w' ⟨s0, s1, s2, s3⟩
         go_simp
         with_reducible rfl
        rotate_left
        ·exact zs
        refine take_ (i := 1) (N := some 15) (v := ?_) (a' := ?_) (zl 21 3) rfl rfl (take_ofW HT_.out HW_.out (by kernel_rfl)) (fun _ _ _ h => h) (Or.inl ⟨by rfl, ?_⟩) hHeld ?_ ?_
        rotate_left
        ·rintro w' ⟨s0, s1, s2, s3⟩
         go_simp
         with_reducible rfl
        rotate_left
        ·exact zs
        refine zp 2 16 21 7 HT_ ?_
        refine zp 3 17 21 15 HT_ ?_
        refine pure_ (i := 4) (N := some 18) (v := undef) (a' := ?_) (zl 21 31) rfl rfl (any_of HT_.out (by kernel_rfl)) (fun _ _ _ h => h) (Or.inr ⟨by rfl, rfl⟩) ?_ ?_
        rotate_left
        ·exact zs
        refine pure_ (i := 5) (N := some 19) (v := undef) (a' := ?_) (zl 21 63) rfl rfl (any_of HT_.out (by kernel_rfl)) (fun _ _ _ h => h) (Or.inr ⟨by rfl, rfl⟩) ?_ ?_
        rotate_left
        ·exact zs
        refine pure_ (i := 6) (N := some 20) (v := undef) (a' := ?_) (zl 21 127) rfl rfl (any_of HT_.out (by kernel_rfl)) (fun _ _ _ h => h) (Or.inr ⟨by rfl, rfl⟩) ?_ ?_
        rotate_left
        ·exact zs
        refine pure_ (i := 7) (N := some 21) (v := undef) (a' := ?_) (zl 21 255) rfl rfl (any_of HT_.out (by kernel_rfl)) (fun _ _ _ h => h) (Or.inr ⟨by rfl, rfl⟩) ?_ ?_
        rotate_left
        ·exact zs
        refine pure_ (i := 8) (N := some 22) (v := undef) (a' := ?_) (zl 21 511) rfl rfl (any_of HT_.out (by kernel_rfl)) (fun _ _ _ h => h) (Or.inr ⟨by rfl, rfl⟩) ?_ ?_
        rotate_left
        ·exact zs
        refine pure_ (i := 9) (N := some 23) (v := undef) (a' := ?_) (zl 21 1023) rfl rfl (any_of HT_.out (by kernel_rfl)) (fun _ _ _ h => h) (Or.inr ⟨by rfl, rfl⟩) ?_ ?_
        rotate_left
        ·exact zs
        refine pure_ (i := 10) (N := some 24) (v := undef) (a' := ?_) (zl 21 2047) rfl rfl (any_of HT_.out (by kernel_rfl)) (fun _ _ _ h => h) (Or.inr ⟨by rfl, rfl⟩) ?_ ?_
        rotate_left
        ·exact zs
        refine pure_ (i := 11) (N := some 25) (v := undef) (a' := ?_) (zl 21 4095) rfl rfl (any_of HT_.out (by kernel_rfl)) (fun _ _ _ h => h) (Or.inr ⟨by rfl, rfl⟩) ?_ ?_
        rotate_left
        ·exact zs
        refine pure_ (i := 12) (N := some 26) (v := undef) (a' := ?_) (zl 21 8191) rfl rfl (any_of HT_.out (by kernel_rfl)) (fun _ _ _ h => h) (Or.inr ⟨by rfl, rfl⟩) ?_ ?_
        rotate_left
        ·exact zs
        refine pure_ (i := 13) (N := some 27) (v := undef) (a' := ?_) (zl 21 16383) rfl rfl (any_of HT_.out (by kernel_rfl)) (fun _ _ _ h => h) (Or.inr ⟨by rfl, rfl⟩) ?_ ?_
        rotate_left
        ·exact zs
        refine pure_ (i := 14) (N := some 28) (v := undef) (a' := ?_) (zl 21 32767) rfl rfl (any_of HT_.out (by kernel_rfl)) (fun _ _ _ h => h) (Or.inr ⟨by rfl, rfl⟩) ?_ ?_
        rotate_left
        ·exact zs
        refine pure_ (i := 15) (N := some 29) (v := undef) (a' := ?_) (zl 21 65535) rfl rfl (any_of HT_.out (by kernel_rfl)) (fun _ _ _ h => h) (Or.inr ⟨by rfl, rfl⟩) ?_ ?_
        rotate_left
        ·exact zs
        refine pure_ (i := 16) (N := some 30) (v := undef) (a' := ?_) (zl 21 131071) rfl rfl (any_of HT_.out (by kernel_rfl)) (fun _ _ _ h => h) (Or.inr ⟨by rfl, rfl⟩) ?_ ?_
        rotate_left
        ·exact zs
        refine pure_ (i := 17) (N := some 31) (v := undef) (a' := ?_) (zl 21 262143) rfl rfl (any_of HT_.out (by kernel_rfl)) (fun _ _ _ h => h) (Or.inr ⟨by rfl, rfl⟩) ?_ ?_
        rotate_left
        ·exact zs
        refine pure_ (i := 18) (N := some 32) (v := undef) (a' := ?_) (zl 21 524287) rfl rfl (any_of HT_.out (by kernel_rfl)) (fun _ _ _ h => h) (Or.inr ⟨by rfl, rfl⟩) ?_ ?_
        rotate_left
        ·exact zs
        refine pure_ (i := 19) (N := some 33) (v := undef) (a' := ?_) (zl 21 1048575) rfl rfl (any_of HT_.out (by kernel_rfl)) (fun _ _ _ h => h) (Or.inr ⟨by rfl, rfl⟩) ?_ ?_
        rotate_left
        ·exact zs
        refine zp 20 34 21 2097151 HT_ ?_
        refine done_ (done_of HT_.out (by kernel_rfl)) ?_
        try go_wp2
        go_meet
        case rel => exact ⟨_, (true), (by first | rfl | (simp; done) | (simp [*]; done)), H', ⟨by have := HK1.out; first | omega | exact Nat.le_refl _⟩, ⟨zk⟩, ⟨zk⟩, ⟨zb⟩⟩
       ·rw [if_neg c11] at H
        have c11b0 : (((rd_T26 l0 x9_1).f0) == a1_0 && (((rd_T26 l0 x9_1).f1) == a1_1)) = false := by simpa using c11
        (try (have c11b1 : decide (((rd_T26 l0 x9_1).f0) = a1_0 && (((rd_T26 l0 x9_1).f1) == a1_1)) = false := by simpa using c11))
        (try (have c11b2 : (((rd_T26 l0 x9_1).f0) == a1_0 && (((rd_T26 l0 x9_1).f1) == a1_1)) = false := by simpa using c11))
        (try (have c11b3 : ¬ (((rd_T26 l0 x9_1).f0) = a1_0 && (((rd_T26 l0 x9_1).f1) == a1_1)) := by simpa using c11))
        clear c11
        (first | rw [c11b0] | (simp only [i64_w, i32_w]; rw [c11b0]) | skip)
        by_cases c14 : (l0.length : Int) > 1
        ·rw [if_pos c14] at H
         have c14b0 : decide (1 < (l0.length : Int)) = true := decide_eq_true c14
         have c14b1 : decide (1 < l0.length) = true := decide_eq_true (by omega)
         clear c14
         by_cases c15 : (l0.length : Int) = 0
         ·rw [if_pos c15] at H
          exact absurd H (by simp)
         ·rw [if_neg c15] at H
          have c15b0 : ((l0.length : Int) == 0) = false := beq_eq_false_iff_ne.mpr c15
          have c15b1 : ((l0.length : Int) != 0) = true := bne_iff_ne.mpr c15
          have c15b2 : ¬ (l0 = []) := fun h_ => c15 (by rw [h_]; rfl)
          obtain ⟨ji16, hji16⟩ : ∃ j_ : Int, (Int.tmod (wrap64 (x9_1 + 1)) (l0.length : Int)) = j_ := ⟨_, rfl⟩
          replace H : (if 0 ≤ (ji16) then (if (ji16) < (l0.length : Int) then ((spec_pgOn.f ((rd_T26 l0 x9_1).f0) ((rd_T26 l0 x9_1).f1) ((rd_T26 l0 (ji16)).f0) ((rd_T26 l0 (ji16)).f1) a1_0 a1_1).bind fun t2292 => (spec_bdOn.j1 k1 l0 l0 (l0.length : Int) x9_1 t2292 a1_0 a1_1)) else (none)) else (none)) = some r := by first | (rw [hji16] at H; exact H) | (simp only [hji16] at H ⊢; exact H)
          by_cases c17 : 0 ≤ (ji16)
          ·rw [if_pos c17] at H
           have c17b0 : decide (0 ≤ (ji16)) = true := decide_eq_true c17
           clear c17
           by_cases c18 : (ji16) < (l0.length : Int)
           ·rw [if_pos c18] at H
            have c18b0 : decide ((ji16) < (l0.length : Int)) = true := decide_eq_true c18
            clear c18
            replace H := Option.bind_eq_some_iff.mp H
            obtain ⟨t2292, A190, H⟩ := H
            replace H : (spec_bdOn.j1 k1 l0 l0 (l0.length : Int) x9_1 t2292 a1_0 a1_1) = some r := H
            have A19 := Aside0.mk A190
            clear A190
            have H' := Aside0.mk H
            clear H
            try go_wp2
            have n0_ : Aside0 (((w8.setCell ⟨gb2290, 0, none⟩ (.int .i64 ((rd_T26 l0 x9_1).f0))).setCell ⟨gb2290, 1, none⟩ (.int .i64 ((rd_T26 l0 x9_1).f1))).heap[gb2288]? = some (.cells #[.int .i64 a1_0, .int .i64 a1_1] 26 (0, 0))) := ⟨by (with_reducible repeat (first | refine blk_drewN ?_ _ | refine blk_drew ?_ | refine blk_alloc ?_ _)); refine blk_far ?_ NB2288_2290.out _; (with_reducible repeat (first | refine blk_drewN ?_ _ | refine blk_drew ?_ | refine blk_alloc ?_ _)); refine blk_far ?_ NB2288_2290.out _; (with_reducible repeat (first | refine blk_drewN ?_ _ | refine blk_drew ?_ | refine blk_alloc ?_ _)); exact BK2288.out⟩
            have n1_ : Aside0 (((w8.setCell ⟨gb2290, 0, none⟩ (.int .i64 ((rd_T26 l0 x9_1).f0))).setCell ⟨gb2290, 1, none⟩ (.int .i64 ((rd_T26 l0 x9_1).f1))).heap[gb2290]? = some (.cells #[.int .i64 ((rd_T26 l0 x9_1).f0), .int .i64 ((rd_T26 l0 x9_1).f1)] 26 (0, 0))) := ⟨by (with_reducible repeat (first | refine blk_drewN ?_ _ | refine blk_drew ?_ | refine blk_alloc ?_ _)); refine blk_put (cs := #[.int .i64 ((rd_T26 l0 x9_1).f0), .int .i64 0]) ?_ 1 _ rfl; (with_reducible repeat (first | refine blk_drewN ?_ _ | refine blk_drew ?_ | refine blk_alloc ?_ _)); refine blk_put (cs := #[.int .i64 0, .int .i64 0]) ?_ 0 _ rfl; (with_reducible repeat (first | refine blk_drewN ?_ _ | refine blk_drew ?_ | refine blk_alloc ?_ _)); exact BK2290.out⟩
            have n2_ : Aside0 (Below w.heap.size w ((w8.setCell ⟨gb2290, 0, none⟩ (.int .i64 ((rd_T26 l0 x9_1).f0))).setCell ⟨gb2290, 1, none⟩ (.int .i64 ((rd_T26 l0 x9_1).f1)))) := ⟨zb⟩
            (try clear BK2288)
            (try clear BK2290)
            (try clear HB)
            generalize ((w8.setCell ⟨gb2290, 0, none⟩ (.int .i64 ((rd_T26 l0 x9_1).f0))).setCell ⟨gb2290, 1, none⟩ (.int .i64 ((rd_T26 l0 x9_1).f1))) = w20 at n0_ n1_ n2_ ⊢
            have BK2288 := n0_
            have BK2290 := n1_
            have HB := n2_
            clear n0_ n1_ n2_
            have n0_ := Aside0.mk (blk_drew BK2288.out)
            have n1_ := Aside0.mk (blk_drew BK2290.out)
            have n2_ := Aside0.mk (below_drew1 HB.out)
            clear BK2288
            clear BK2290
            clear HB
            have BK2288 := n0_
            have BK2290 := n1_
            have HB := n2_
            clear n0_ n1_ n2_
            have p2291 : 0 ≤ ((ji16) : Int) := of_decide_eq_true (by first | (with_reducible assumption) | assumption)
            have q2291 : (ji16) < (l0.length : Int) := of_decide_eq_true (by first | (with_reducible assumption) | assumption)
            obtain ⟨ad2291, e2291, hx2291_0, hx2291_1⟩ := at_T26 HR0.out (ji16) p2291 q2291
            have hw2291_1 := hx2291_1
            have hw2291_0 := hx2291_0
            obtain rfl : ad2289 = ad2291 := (by injection e2291)
            replace hx2291_0 := zc HB hx2291_0
            replace hx2291_1 := zc HB hx2291_1
            replace p2291 := eq_true p2291
            replace q2291 := eq_true q2291
            refine start_ (n := 21) (S := fun w' => w'.cell? ⟨gb2290, 0, none⟩ = some (.int .i64 ((rd_T26 l0 x9_1).f0)) ∧ w'.cell? ⟨gb2290, 1, none⟩ = some (.int .i64 ((rd_T26 l0 x9_1).f1)) ∧ w'.cell? ⟨gb2288, 0, none⟩ = some (.int .i64 a1_0) ∧ w'.cell? ⟨gb2288, 1, none⟩ = some (.int .i64 a1_1) ∧ w'.cell? (ad2289.add (((ji16)).toNat * 2)) = some (.int .i64 ((rd_T26 l0 (ji16)).f0)) ∧ w'.cell? ⟨(ad2289.add (((ji16)).toNat * 2)).block, (ad2289.add (((ji16)).toNat * 2)).off + 1, none⟩ = some (.int .i64 ((rd_T26 l0 (ji16)).f1))) (ds := []) (zl 21 0) (by kernel_rfl) rfl rfl ⟨(blk_cell BK2290.out 0).trans rfl, (blk_cell BK2290.out 1).trans rfl, (blk_cell BK2288.out 0).trans rfl, (blk_cell BK2288.out 1).trans rfl, (zc HB hw2291_0), (zc HB hw2291_1)⟩ (fun hHeld => ?_); refine with_tabW spec_bdOn.tab4 spec_bdOn.bits4 (fun HT_ HW_ => ?_)
            generalize w20.drew = w21 at BK2288 BK2290 HB hx2291_0 hx2291_1 hHeld ⊢
            refine take_ (i := 0) (N := some 14) (v := ?_) (a' := ?_) (zl 21 1) rfl rfl (take_ofW HT_.out HW_.out (by kernel_rfl)) (fun _ _ _ h => h) (Or.inl ⟨by rfl, ?_⟩) hHeld ?_ ?_
            rotate_left
            ·rintro w' ⟨s0, s1, s2, s3, s4, s5⟩
             go_simp
             with_reducible rfl
            rotate_left
            ·exact zs
            refine take_ (i := 1) (N := some 15) (v := ?_) (a' := ?_) (zl 21 3) rfl rfl (take_ofW HT_.out HW_.out (by kernel_rfl)) (fun _ _ _ h => h) (Or.inl ⟨by rfl, ?_⟩) hHeld ?_ ?_
            rotate_left
            ·rintro w' ⟨s0, s1, s2, s3, s4, s5⟩
             go_simp
             with_reducible rfl
            rotate_left
            ·exact zs
            refine zp 2 16 21 7 HT_ ?_
            refine zp 3 17 21 15 HT_ ?_
            refine zp 4 18 21 31 HT_ ?_
            refine zp 5 19 21 63 HT_ ?_
            refine zp 6 20 21 127 HT_ ?_
            refine zp 7 21 21 255 HT_ ?_
            refine zp 9 23 21 767 HT_ ?_
            refine zp 10 24 21 1791 HT_ ?_
            refine zp 11 25 21 3839 HT_ ?_
            refine zp 12 26 21 7935 HT_ ?_
            refine zp 13 27 21 16127 HT_ ?_
            refine zp 14 28 21 32511 HT_ ?_
            refine zp 15 29 21 65279 HT_ ?_
            refine take_ (i := 8) (N := some 22) (v := ?_) (a' := ?_) (zl 21 65535) rfl rfl (take_ofW HT_.out HW_.out (by kernel_rfl)) (fun _ _ _ h => h) (Or.inl ⟨by rfl, ?_⟩) hHeld ?_ ?_
            rotate_left
            ·rintro w' ⟨s0, s1, s2, s3, s4, s5⟩
             go_simp
             with_reducible rfl
            rotate_left
            ·exact zs
            refine take_ (i := 16) (N := some 30) (v := ?_) (a' := ?_) (zl 21 131071) rfl rfl (take_ofW HT_.out HW_.out (by kernel_rfl)) (fun _ _ _ h => h) (Or.inl ⟨by rfl, ?_⟩) hHeld ?_ ?_
            rotate_left
            ·rintro w' ⟨s0, s1, s2, s3, s4, s5⟩
             go_simp
             with_reducible rfl
            rotate_left
            ·exact zs
            refine take_ (i := 17) (N := some 31) (v := ?_) (a' := ?_) (zl 21 262143) rfl rfl (take_ofW HT_.out HW_.out (by kernel_rfl)) (fun _ _ _ h => h) (Or.inl ⟨by rfl, ?_⟩) hHeld ?_ ?_
            rotate_left
            ·rintro w' ⟨s0, s1, s2, s3, s4, s5⟩
             go_simp
             with_reducible rfl
            rotate_left
            ·exact zs
            refine one_ (i := 18) (N := some 32) (zl 21 524287) rfl rfl (one_of HT_.out (by kernel_rfl)) (by decide) (fun K hK => ?_)
            refine goes_ Try.func226 (by kernel_rfl) rfl #[.agg #[.int .i64 ((rd_T26 l0 x9_1).f0), .int .i64 ((rd_T26 l0 x9_1).f1)], .agg #[.int .i64 ((rd_T26 l0 (ji16)).f0), .int .i64 ((rd_T26 l0 (ji16)).f1)], .agg #[.int .i64 a1_0, .int .i64 a1_1]] (by rfl) rfl rfl (by (try simp only [List.map_toArray, List.map_cons, List.map_nil]); first | done | (simp only [hji16]; rfl) | rfl | (simp only [List.length_drop, List.length_take]; rfl)) ?_
            with_reducible refine (spec_pgOn.calls ((rd_T26 l0 x9_1).f0) ((rd_T26 l0 x9_1).f1) ((rd_T26 l0 (ji16)).f0) ((rd_T26 l0 (ji16)).f1) a1_0 a1_1 t2292 _ A19.out).mono ?_
            rintro e w22 ⟨rfl, hb⟩
            refine ⟨_, rfl, ?_⟩
            have n0_ := Aside0.mk (blk_below (g := gb2288) (o := .cells #[.int .i64 a1_0, .int .i64 a1_1] 26 (0, 0)) zk hb)
            have n1_ := Aside0.mk (blk_below (g := gb2290) (o := .cells #[.int .i64 ((rd_T26 l0 x9_1).f0), .int .i64 ((rd_T26 l0 x9_1).f1)] 26 (0, 0)) zk hb)
            have n2_ := Aside0.mk (below_step zb hb)
            clear BK2288
            clear BK2290
            clear HB
            have BK2288 := n0_
            have BK2290 := n1_
            have HB := n2_
            clear n0_ n1_ n2_
            (try clear hb)
            (try clear hb2)
            (try clear hk)
            (try clear hi)
            refine hK.out _ _ ⟨(blk_cell BK2290.out 0).trans rfl, (blk_cell BK2290.out 1).trans rfl, (blk_cell BK2288.out 0).trans rfl, (blk_cell BK2288.out 1).trans rfl, (zc HB hw2291_0), (zc HB hw2291_1)⟩ (fun hHeld => ?_)
            clear hK K
            refine norm_ (a' := ?_) ?_ ?_
            rotate_left
            ·show Act.put _ (some 32) _ = _
             exact zs
            refine zp 19 33 21 1048575 HT_ ?_
            refine zp 20 34 21 2097151 HT_ ?_
            refine done_ (done_of HT_.out (by kernel_rfl)) ?_
            try go_wp2
            go_meet
            case rel => exact ⟨_, (t2292), (by first | rfl | (simp; done) | (simp [*]; done)), H', ⟨by have := HK1.out; first | omega | exact Nat.le_refl _⟩, ⟨zk⟩, ⟨zk⟩, ⟨zb⟩⟩
           ·rw [if_neg c18] at H
            exact absurd H (by simp)
          ·rw [if_neg c17] at H
           exact absurd H (by simp)
        ·rw [if_neg c14] at H
         have c14b0 : decide (1 < (l0.length : Int)) = false := decide_eq_false c14
         have c14b1 : decide (1 < l0.length) = false := decide_eq_false (by omega)
         clear c14
         have H' := Aside0.mk H
         clear H
         try go_wp2
         have n0_ : Aside0 (((w8.setCell ⟨gb2290, 0, none⟩ (.int .i64 ((rd_T26 l0 x9_1).f0))).setCell ⟨gb2290, 1, none⟩ (.int .i64 ((rd_T26 l0 x9_1).f1))).heap[gb2288]? = some (.cells #[.int .i64 a1_0, .int .i64 a1_1] 26 (0, 0))) := ⟨by (with_reducible repeat (first | refine blk_drewN ?_ _ | refine blk_drew ?_ | refine blk_alloc ?_ _)); refine blk_far ?_ NB2288_2290.out _; (with_reducible repeat (first | refine blk_drewN ?_ _ | refine blk_drew ?_ | refine blk_alloc ?_ _)); refine blk_far ?_ NB2288_2290.out _; (with_reducible repeat (first | refine blk_drewN ?_ _ | refine blk_drew ?_ | refine blk_alloc ?_ _)); exact BK2288.out⟩
         have n1_ : Aside0 (((w8.setCell ⟨gb2290, 0, none⟩ (.int .i64 ((rd_T26 l0 x9_1).f0))).setCell ⟨gb2290, 1, none⟩ (.int .i64 ((rd_T26 l0 x9_1).f1))).heap[gb2290]? = some (.cells #[.int .i64 ((rd_T26 l0 x9_1).f0), .int .i64 ((rd_T26 l0 x9_1).f1)] 26 (0, 0))) := ⟨by (with_reducible repeat (first | refine blk_drewN ?_ _ | refine blk_drew ?_ | refine blk_alloc ?_ _)); refine blk_put (cs := #[.int .i64 ((rd_T26 l0 x9_1).f0), .int .i64 0]) ?_ 1 _ rfl; (with_reducible repeat (first | refine blk_drewN ?_ _ | refine blk_drew ?_ | refine blk_alloc ?_ _)); refine blk_put (cs := #[.int .i64 0, .int .i64 0]) ?_ 0 _ rfl; (with_reducible repeat (first | refine blk_drewN ?_ _ | refine blk_drew ?_ | refine blk_alloc ?_ _)); exact BK2290.out⟩
         have n2_ : Aside0 (Below w.heap.size w ((w8.setCell ⟨gb2290, 0, none⟩ (.int .i64 ((rd_T26 l0 x9_1).f0))).setCell ⟨gb2290, 1, none⟩ (.int .i64 ((rd_T26 l0 x9_1).f1)))) := ⟨zb⟩
         (try clear BK2288)
         (try clear BK2290)
         (try clear HB)
         generalize ((w8.setCell ⟨gb2290, 0, none⟩ (.int .i64 ((rd_T26 l0 x9_1).f0))).setCell ⟨gb2290, 1, none⟩ (.int .i64 ((rd_T26 l0 x9_1).f1))) = w23 at n0_ n1_ n2_ ⊢
         have BK2288 := n0_
         have BK2290 := n1_
         have HB := n2_
         clear n0_ n1_ n2_
         have n0_ := Aside0.mk (blk_drew BK2288.out)
         have n1_ := Aside0.mk (blk_drew BK2290.out)
         have n2_ := Aside0.mk (below_drew1 HB.out)
         clear BK2288
         clear BK2290
         clear HB
         have BK2288 := n0_
         have BK2290 := n1_
         have HB := n2_
         clear n0_ n1_ n2_
         refine start_ (n := 21) (S := fun w' => w'.cell? ⟨gb2290, 0, none⟩ = some (.int .i64 ((rd_T26 l0 x9_1).f0)) ∧ w'.cell? ⟨gb2290, 1, none⟩ = some (.int .i64 ((rd_T26 l0 x9_1).f1)) ∧ w'.cell? ⟨gb2288, 0, none⟩ = some (.int .i64 a1_0) ∧ w'.cell? ⟨gb2288, 1, none⟩ = some (.int .i64 a1_1)) (ds := []) (zl 21 0) (by kernel_rfl) rfl rfl ⟨(blk_cell BK2290.out 0).trans rfl, (blk_cell BK2290.out 1).trans rfl, (blk_cell BK2288.out 0).trans rfl, (blk_cell BK2288.out 1).trans rfl⟩ (fun hHeld => ?_); refine with_tabW spec_bdOn.tab4 spec_bdOn.bits4 (fun HT_ HW_ => ?_)
         generalize w23.drew = w24 at BK2288 BK2290 HB hHeld ⊢
         refine take_ (i := 0) (N := some 14) (v := ?_) (a' := ?_) (zl 21 1) rfl rfl (take_ofW HT_.out HW_.out (by kernel_rfl)) (fun _ _ _ h => h) (Or.inl ⟨by rfl, ?_⟩) hHeld ?_ ?_
         rotate_left
         ·rintro w' ⟨s0, s1, s2, s3⟩
          go_simp
          with_reducible rfl
         rotate_left
         ·exact zs
         refine take_ (i := 1) (N := some 15) (v := ?_) (a' := ?_) (zl 21 3) rfl rfl (take_ofW HT_.out HW_.out (by kernel_rfl)) (fun _ _ _ h => h) (Or.inl ⟨by rfl, ?_⟩) hHeld ?_ ?_
         rotate_left
         ·rintro w' ⟨s0, s1, s2, s3⟩
          go_simp
          with_reducible rfl
         rotate_left
         ·exact zs
         refine zp 2 16 21 7 HT_ ?_
         refine zp 3 17 21 15 HT_ ?_
         refine zp 4 18 21 31 HT_ ?_
         refine zp 5 19 21 63 HT_ ?_
         refine zp 6 20 21 127 HT_ ?_
         refine zp 7 21 21 255 HT_ ?_
         refine pure_ (i := 8) (N := some 22) (v := undef) (a' := ?_) (zl 21 511) rfl rfl (any_of HT_.out (by kernel_rfl)) (fun _ _ _ h => h) (Or.inr ⟨by rfl, rfl⟩) ?_ ?_
         rotate_left
         ·exact zs
         refine pure_ (i := 9) (N := some 23) (v := undef) (a' := ?_) (zl 21 1023) rfl rfl (any_of HT_.out (by kernel_rfl)) (fun _ _ _ h => h) (Or.inr ⟨by rfl, rfl⟩) ?_ ?_
         rotate_left
         ·exact zs
         refine pure_ (i := 10) (N := some 24) (v := undef) (a' := ?_) (zl 21 2047) rfl rfl (any_of HT_.out (by kernel_rfl)) (fun _ _ _ h => h) (Or.inr ⟨by rfl, rfl⟩) ?_ ?_
         rotate_left
         ·exact zs
         refine pure_ (i := 11) (N := some 25) (v := undef) (a' := ?_) (zl 21 4095) rfl rfl (any_of HT_.out (by kernel_rfl)) (fun _ _ _ h => h) (Or.inr ⟨by rfl, rfl⟩) ?_ ?_
         rotate_left
         ·exact zs
         refine pure_ (i := 12) (N := some 26) (v := undef) (a' := ?_) (zl 21 8191) rfl rfl (any_of HT_.out (by kernel_rfl)) (fun _ _ _ h => h) (Or.inr ⟨by rfl, rfl⟩) ?_ ?_
         rotate_left
         ·exact zs
         refine pure_ (i := 13) (N := some 27) (v := undef) (a' := ?_) (zl 21 16383) rfl rfl (any_of HT_.out (by kernel_rfl)) (fun _ _ _ h => h) (Or.inr ⟨by rfl, rfl⟩) ?_ ?_
         rotate_left
         ·exact zs
         refine pure_ (i := 14) (N := some 28) (v := undef) (a' := ?_) (zl 21 32767) rfl rfl (any_of HT_.out (by kernel_rfl)) (fun _ _ _ h => h) (Or.inr ⟨by rfl, rfl⟩) ?_ ?_
         rotate_left
         ·exact zs
         refine pure_ (i := 15) (N := some 29) (v := undef) (a' := ?_) (zl 21 65535) rfl rfl (any_of HT_.out (by kernel_rfl)) (fun _ _ _ h => h) (Or.inr ⟨by rfl, rfl⟩) ?_ ?_
         rotate_left
         ·exact zs
         refine pure_ (i := 16) (N := some 30) (v := undef) (a' := ?_) (zl 21 131071) rfl rfl (any_of HT_.out (by kernel_rfl)) (fun _ _ _ h => h) (Or.inr ⟨by rfl, rfl⟩) ?_ ?_
         rotate_left
         ·exact zs
         refine pure_ (i := 17) (N := some 31) (v := undef) (a' := ?_) (zl 21 262143) rfl rfl (any_of HT_.out (by kernel_rfl)) (fun _ _ _ h => h) (Or.inr ⟨by rfl, rfl⟩) ?_ ?_
         rotate_left
         ·exact zs
         refine pure_ (i := 18) (N := some 32) (v := undef) (a' := ?_) (zl 21 524287) rfl rfl (any_of HT_.out (by kernel_rfl)) (fun _ _ _ h => h) (Or.inr ⟨by rfl, rfl⟩) ?_ ?_
         rotate_left
         ·exact zs
         refine zp 19 33 21 1048575 HT_ ?_
         refine zp 20 34 21 2097151 HT_ ?_
         refine done_ (done_of HT_.out (by kernel_rfl)) ?_
         try go_wp2
         go_meet
         case rel => exact ⟨_, (false), (by first | rfl | (simp; done) | (simp [*]; done)), H', ⟨by have := HK1.out; first | omega | exact Nat.le_refl _⟩, ⟨zk⟩, ⟨zk⟩, ⟨zb⟩⟩
      case rest =>
       clear HC7
       try clear c1
       try clear c2
       try clear p2
       try clear q2
       try clear hx2
       try clear c4
       try clear c4b0
       try clear c5
       try clear c5b0
       try clear c6
       try clear c6b0
       try clear p6
       try clear c9
       try clear c11
       try clear c11b0
       try clear c11b1
       try clear c11b2
       try clear c14
       try clear c14b0
       try clear c14b1
       try clear c15
       try clear c15b0
       try clear c15b1
       try clear c15b2
       try clear c17
       try clear c17b0
       try clear c18
       try clear c18b0
       try clear c22
       try clear p22
       try clear q22
       try clear hx22
       try clear hcz10_0
       try clear hcz10_1
       try clear hfz10_0
       try clear hfz10_1
       try clear hx2289_0
       try clear hx2289_1
       try clear hx2291_0
       try clear hx2291_1
       try clear p2289
       try clear p2291
       try clear q2289
       try clear q2291
       obtain ⟨kq, x34_6, rfl, HA, HJ6, BK2288, BK2290, HB⟩ := hcut
       cases kq with
       | zero => exact absurd HA.out (by simp [spec_bdOn.j1])
       | succ kj6 =>
        have H := HA.out
        clear HA
        simp only [spec_bdOn.j1] at H
        by_cases c25 : x34_6 = true
        ·subst c25
         have H1 : (some true) = some r := by rw [if_pos rfl] at H; exact H
         clear H
         have H := H1
         clear H1
         obtain rfl := Option.some.inj H
         go_wp2
         go_ret
         exact ⟨by first | rfl | (simp [errW_none, errW_some] <;> rfl) | (simp [*, errW_none, errW_some] <;> rfl), zb⟩
        ·replace c25 := Bool.eq_false_iff.mpr c25
         subst c25
         have H1 : (spec_bdOn.l0 kj6 l0 l0 (l0.length : Int) (wrap64 (x9_1 + 1)) a1_0 a1_1) = some r := by rw [if_neg (show ¬ (false = true) by decide)] at H; exact H
         clear H
         have H := H1
         clear H1
         have H' := Aside0.mk H
         clear H
         go_wp2
         go_roundg kj6
         case measure => have := HK1.out; have := HJ6.out; omega
         case rel => exact ⟨(wrap64 (x9_1 + 1)), (by first | rfl | (simp; done) | (simp [*]; done)), H', ⟨by have := HK1.out; have := HJ6.out; omega⟩, ⟨zk⟩, ⟨zb⟩⟩
     ·rw [if_neg c6] at H
      exact absurd H (by simp)
    ·rw [if_neg c5] at H
     exact absurd H (by simp)
   ·rw [if_neg c4] at H
    have c4b0 : decide (x9_1 < (l0.length : Int)) = false := decide_eq_false c4
    clear c4
    obtain rfl := Option.some.inj H
    go_wp2
    go_ret
    exact ⟨by first | rfl | (simp [errW_none, errW_some] <;> rfl) | (simp [*, errW_none, errW_some] <;> rfl), zb⟩
end Go.Proofs.Ytphpdfcblchpnaa.Q
