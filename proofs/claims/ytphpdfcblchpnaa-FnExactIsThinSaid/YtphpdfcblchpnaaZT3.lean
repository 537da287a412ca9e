/- Parts of the proof: printed texts, words and own texts, cut to what is used. -/
import Derived.Test.YtphpdfcblchpnaaZT2
namespace Go.Proofs.Ytphpdfcblchpnaa.Q
open Go.RowKit Go.Proofs.YtphpdfcblchpnaaW.PrintWords Go.Proofs.YtphpdfcblchpnaaW.PrintLast Go.Proofs.YtphpdfcblchpnaaW.PrintMore
attribute [local go_sem] max2_int min2_int max_two min_two max_three min_three max_four min_four   -- for this text's walks alone
set_option linter.unusedVariables false
set_option linter.unusedSimpArgs false
mutual
def spec_wiAll.l0 : Nat → List (S26) → Int → Int → List (List Int) → Int → Int → Int → Int → Int → Option ((List (List Int)))
 | 0, _, _, _, _, _, _, _, _, _ => none
 | k + 1, x0, x1, x7, x8, x9, x2153000, x2153001, x2158000, x2158001 => if x9 ≤ x1 then (spec_wiAll.l1 k x0 x1 x7 x8 x9 (wrap64 (-x1)) x2153000 x2153001 x2158000 x2158001) else (some x8)
def spec_wiAll.l1 : Nat → List (S26) → Int → Int → List (List Int) → Int → Int → Int → Int → Int → Int → Option ((List (List Int)))
 | 0, _, _, _, _, _, _, _, _, _, _ => none
 | k + 1, x0, x1, x7, x8, x9, x10, x2153000, x2153001, x2158000, x2158001 => if x10 ≤ x1 then (if x7 = 0 then (none) else (if (Int.tmod (wrap64 ((wrap64 (x9 * x2158001)) - (wrap64 (x10 * x2153001)))) x7) = 0 then (spec_wiAll.j2 k x0 x1 x7 x8 x9 x10 (wrap64 ((wrap64 (x9 * x2158001)) - (wrap64 (x10 * x2153001)))) (wrap64 ((wrap64 (x10 * x2153000)) - (wrap64 (x9 * x2158000)))) ((Int.tmod (wrap64 ((wrap64 (x10 * x2153000)) - (wrap64 (x9 * x2158000)))) x7) != 0) x2153000 x2153001 x2158000 x2158001) else (spec_wiAll.j2 k x0 x1 x7 x8 x9 x10 (wrap64 ((wrap64 (x9 * x2158001)) - (wrap64 (x10 * x2153001)))) (wrap64 ((wrap64 (x10 * x2153000)) - (wrap64 (x9 * x2158000)))) true x2153000 x2153001 x2158000 x2158001))) else (spec_wiAll.l0 k x0 x1 x7 x8 (wrap64 (x9 + 1)) x2153000 x2153001 x2158000 x2158001)
def spec_wiAll.j2 : Nat → List (S26) → Int → Int → List (List Int) → Int → Int → Int → Int → Bool → Int → Int → Int → Int → Option ((List (List Int)))
 | 0, _, _, _, _, _, _, _, _, _, _, _, _, _ => none
 | k + 1, x0, x1, x7, x8, x9, x10, x11, x12, x107, x2153000, x2153001, x2158000, x2158001 => if x107 = true then (spec_wiAll.l1 k x0 x1 x7 x8 x9 (wrap64 (x10 + 1)) x2153000 x2153001 x2158000 x2158001) else (if x7 = 0 then (none) else (if (wrap64 (Int.tdiv x11 x7)) < 0 then (spec_wiAll.j3 k x0 x1 x7 x8 x9 x10 (wrap64 (Int.tdiv x11 x7)) (wrap64 (Int.tdiv x12 x7)) true x2153000 x2153001 x2158000 x2158001) else (if (wrap64 (Int.tdiv x11 x7)) = 0 then (if (wrap64 (Int.tdiv x12 x7)) < 1 then (spec_wiAll.j3 k x0 x1 x7 x8 x9 x10 (wrap64 (Int.tdiv x11 x7)) (wrap64 (Int.tdiv x12 x7)) true x2153000 x2153001 x2158000 x2158001) else ((spec_pgCommon.f k (wrap64 (Int.tdiv x11 x7)) (wrap64 (Int.tdiv x12 x7))).bind fun t2158 => (if t2158 = 1 then ((spec_wiWidth.f k x0 (wrap64 (Int.tdiv x11 x7)) (wrap64 (Int.tdiv x12 x7))).bind fun t2159 => (spec_wiAll.j3 k x0 x1 x7 x8 x9 x10 (wrap64 (Int.tdiv x11 x7)) (wrap64 (Int.tdiv x12 x7)) (decide (t2159 > x1)) x2153000 x2153001 x2158000 x2158001)) else (spec_wiAll.j3 k x0 x1 x7 x8 x9 x10 (wrap64 (Int.tdiv x11 x7)) (wrap64 (Int.tdiv x12 x7)) true x2153000 x2153001 x2158000 x2158001)))) else ((spec_pgCommon.f k (wrap64 (Int.tdiv x11 x7)) (wrap64 (Int.tdiv x12 x7))).bind fun t2160 => (if t2160 = 1 then ((spec_wiWidth.f k x0 (wrap64 (Int.tdiv x11 x7)) (wrap64 (Int.tdiv x12 x7))).bind fun t2161 => (spec_wiAll.j3 k x0 x1 x7 x8 x9 x10 (wrap64 (Int.tdiv x11 x7)) (wrap64 (Int.tdiv x12 x7)) (decide (t2161 > x1)) x2153000 x2153001 x2158000 x2158001)) else (spec_wiAll.j3 k x0 x1 x7 x8 x9 x10 (wrap64 (Int.tdiv x11 x7)) (wrap64 (Int.tdiv x12 x7)) true x2153000 x2153001 x2158000 x2158001))))))
def spec_wiAll.j3 : Nat → List (S26) → Int → Int → List (List Int) → Int → Int → Int → Int → Bool → Int → Int → Int → Int → Option ((List (List Int)))
 | 0, _, _, _, _, _, _, _, _, _, _, _, _, _ => none
 | k + 1, x0, x1, x7, x8, x9, x10, x13, x14, x137, x2153000, x2153001, x2158000, x2158001 => if x137 = true then (spec_wiAll.l1 k x0 x1 x7 x8 x9 (wrap64 (x10 + 1)) x2153000 x2153001 x2158000 x2158001) else (spec_wiAll.l2 k x0 x1 x7 x8 x9 x10 x13 x14 (x8.length : Int) x2153000 x2153001 x2158000 x2158001)
def spec_wiAll.l2 : Nat → List (S26) → Int → Int → List (List Int) → Int → Int → Int → Int → Int → Int → Int → Int → Int → Option ((List (List Int)))
 | 0, _, _, _, _, _, _, _, _, _, _, _, _, _ => none
 | k + 1, x0, x1, x7, x8, x9, x10, x13, x14, x15, x2153000, x2153001, x2158000, x2158001 => if x15 > 0 then (if 0 ≤ (wrap64 (x15 - 1)) then (if (wrap64 (x15 - 1)) < (x8.length : Int) then (if 0 < ((rd_L6 x8 (wrap64 (x15 - 1))).length : Int) then (if x13 < (rd (rd_L6 x8 (wrap64 (x15 - 1))) 0) then (spec_wiAll.j5 k x0 x1 x7 x8 x9 x10 x13 x14 x15 true x2153000 x2153001 x2158000 x2158001) else (if x13 = (rd (rd_L6 x8 (wrap64 (x15 - 1))) 0) then (if 1 < ((rd_L6 x8 (wrap64 (x15 - 1))).length : Int) then (spec_wiAll.j5 k x0 x1 x7 x8 x9 x10 x13 x14 x15 (decide (x14 < (rd (rd_L6 x8 (wrap64 (x15 - 1))) 1))) x2153000 x2153001 x2158000 x2158001) else (none)) else (spec_wiAll.j5 k x0 x1 x7 x8 x9 x10 x13 x14 x15 false x2153000 x2153001 x2158000 x2158001))) else (none)) else (none)) else (none)) else (spec_wiAll.j5 k x0 x1 x7 x8 x9 x10 x13 x14 x15 false x2153000 x2153001 x2158000 x2158001)
def spec_wiAll.j5 : Nat → List (S26) → Int → Int → List (List Int) → Int → Int → Int → Int → Int → Bool → Int → Int → Int → Int → Option ((List (List Int)))
 | 0, _, _, _, _, _, _, _, _, _, _, _, _, _, _ => none
 | k + 1, x0, x1, x7, x8, x9, x10, x13, x14, x15, x174, x2153000, x2153001, x2158000, x2158001 => if x174 = true then (spec_wiAll.l2 k x0 x1 x7 x8 x9 x10 x13 x14 (wrap64 (x15 - 1)) x2153000 x2153001 x2158000 x2158001) else ((some (([] : List (List Int)) : List (List Int))).bind fun y2168 => (if 0 ≤ x15 then (if x15 ≤ (x8.length : Int) then ((some (x8.take (x15 : Int).toNat : List (List Int))).bind fun y2171 => (if y2168.length + y2171.length < 5864062014805 then ((some (y2168 ++ y2171 : List (List Int))).bind fun y2176 => (if y2176.length < 5864062014805 then ((some (y2176 ++ [(([x13, x14] : List Int))] : List (List Int))).bind fun y2182 => ((some (x8.drop (x15 : Int).toNat : List (List Int))).bind fun y2185 => (if y2182.length + y2185.length < 5864062014805 then (spec_wiAll.l1 k x0 x1 x7 (y2182 ++ y2185) x9 (wrap64 (x10 + 1)) x2153000 x2153001 x2158000 x2158001) else (none)))) else (none))) else (none))) else (none)) else (none)))
end
def spec_wiAll.f (k : Nat) (l0 : List (S26)) (a1 : Int) : Option ((List (List Int))) := if 1 < (l0.length : Int) then (if 0 < (l0.length : Int) then (if 2 < (l0.length : Int) then (spec_wiAll.l0 k l0 a1 (wrap64 ((wrap64 ((wrap64 (((rd_T26 l0 1).f0) - ((rd_T26 l0 0).f0))) * (wrap64 (((rd_T26 l0 2).f1) - ((rd_T26 l0 0).f1))))) - (wrap64 ((wrap64 (((rd_T26 l0 1).f1) - ((rd_T26 l0 0).f1))) * (wrap64 (((rd_T26 l0 2).f0) - ((rd_T26 l0 0).f0))))))) ([] : List (List Int)) (wrap64 (-a1)) (wrap64 (((rd_T26 l0 1).f0) - ((rd_T26 l0 0).f0))) (wrap64 (((rd_T26 l0 1).f1) - ((rd_T26 l0 0).f1))) (wrap64 (((rd_T26 l0 2).f0) - ((rd_T26 l0 0).f0))) (wrap64 (((rd_T26 l0 2).f1) - ((rd_T26 l0 0).f1)))) else (none)) else (none)) else (none)
def spec_wiAll.T1 : Bool × List (List Nat × List Nat) := (true, [([], []), ([0], [0]), ([1], [1]), ([2], [2]), ([], []), ([4], [4]), ([5], [5]), ([6], [6]), ([3, 7], [3, 7]), ([], []), ([9], [9]), ([10], [10]), ([11], [11]), ([], []), ([13], [13]), ([14], [14]), ([15], [15]), ([12, 16], [12, 16]), ([8, 17], [8, 17]), ([], []), ([19, 18, 0, 1, 2, 3, 4, 5, 6, 7, 8, 9, 10, 11, 12, 13, 14, 15, 16, 17, 18, 19], [18, 19])])
def spec_wiAll.B1 : List Nat := [0, 1, 3, 7, 0, 16, 48, 112, 255, 0, 512, 1536, 3584, 0, 8192, 24576, 57344, 130560, 262143, 0, 1048575]
theorem spec_wiAll.tab1 : rtab .any (opsOf Try.f220 1) = spec_wiAll.T1 := by kernel_rfl
theorem spec_wiAll.bits1 : waitsOk spec_wiAll.T1.2 spec_wiAll.B1 = true := by kernel_rfl
def spec_wiAll.T2 : Bool × List (List Nat × List Nat) := (true, [([], []), ([0], [0]), ([1], [1]), ([2], [2]), ([], []), ([4], [4]), ([5], [5]), ([6], [6]), ([3, 7], [3, 7]), ([], []), ([9], [9]), ([10], [10]), ([11], [11]), ([], []), ([13], [13]), ([14], [14]), ([15], [15]), ([12, 16], [12, 16]), ([8, 17], [8, 17]), ([], []), ([19, 18, 0, 1, 2, 3, 4, 5, 6, 7, 8, 9, 10, 11, 12, 13, 14, 15, 16, 17, 18, 19], [18, 19])])
def spec_wiAll.B2 : List Nat := [0, 1, 3, 7, 0, 16, 48, 112, 255, 0, 512, 1536, 3584, 0, 8192, 24576, 57344, 130560, 262143, 0, 1048575]
theorem spec_wiAll.tab2 : rtab .any (opsOf Try.f220 2) = spec_wiAll.T2 := by kernel_rfl
theorem spec_wiAll.bits2 : waitsOk spec_wiAll.T2.2 spec_wiAll.B2 = true := by kernel_rfl
def spec_wiAll.T11 : Bool × List (List Nat × List Nat) := (true, [([], []), ([], []), ([1], [1]), ([0, 2], [0, 2]), ([], []), ([], []), ([5], [5]), ([4, 6], [4, 6]), ([3, 7], [3, 7]), ([], []), ([], []), ([10], [10]), ([9, 11], [9, 11]), ([], []), ([], []), ([14], [14]), ([13, 15], [13, 15]), ([12, 16], [12, 16]), ([8, 0, 1, 2, 3, 4, 5, 6, 7, 8], [8]), ([17, 18, 0, 1, 2, 3, 4, 5, 6, 7, 8, 9, 10, 11, 12, 13, 14, 15, 16, 17, 18], [17])])
def spec_wiAll.B11 : List Nat := [0, 0, 2, 7, 0, 0, 32, 112, 255, 0, 0, 1024, 3584, 0, 0, 16384, 57344, 130560, 511, 524287]
theorem spec_wiAll.tab11 : rtab .any (opsOf Try.f220 11) = spec_wiAll.T11 := by kernel_rfl
theorem spec_wiAll.bits11 : waitsOk spec_wiAll.T11.2 spec_wiAll.B11 = true := by kernel_rfl
def spec_wiAll.T13 : Bool × List (List Nat × List Nat) := (true, [([], []), ([], []), ([0, 1], [0, 1]), ([], []), ([], []), ([3, 4], [3, 4]), ([2, 0, 1, 2], [2]), ([5, 6, 0, 1, 2, 3, 4, 5, 6], [5])])
def spec_wiAll.B13 : List Nat := [0, 0, 3, 0, 0, 24, 7, 127]
theorem spec_wiAll.tab13 : rtab .any (opsOf Try.f220 13) = spec_wiAll.T13 := by kernel_rfl
theorem spec_wiAll.bits13 : waitsOk spec_wiAll.T13.2 spec_wiAll.B13 = true := by kernel_rfl
set_option maxHeartbeats 8000000 in
set_option maxRecDepth 100000 in
theorem spec_wiAll.calls (k : Nat) (A0 : Option Addr) (c0 : Nat) (l0 : List (S26)) (a1 : Int) (r : List (List Int)) (w : World) (hr0 : Kd.C k26 w A0 l0.length l0) (hc0 : l0.length ≤ c0) (h : spec_wiAll.f k l0 a1 = some r) :
  Calls Try.prog 220 #[.slice A0 l0.length c0, .int .i64 a1] w fun e w' => ∃ v0_ : Value, e = .returned (v0_) ∧ Kd.N (Kd.slice 3 (Kd.int .i64)) 29 w' w.heap.size (fun k_ => (w.heap.size ≤ k_)) v0_ r ∧ Below w.heap.size w w' := by
 have hu26 := Try.underlying26
 have HR0 := Aside0.mk hr0
 have HC0 := Aside0.mk hc0
 clear hr0 hc0
 have HB := Aside0.mk (Below.refl w.heap.size w)
 have H : (if 1 < (l0.length : Int) then (if 0 < (l0.length : Int) then (if 2 < (l0.length : Int) then (spec_wiAll.l0 k l0 a1 (wrap64 ((wrap64 ((wrap64 (((rd_T26 l0 1).f0) - ((rd_T26 l0 0).f0))) * (wrap64 (((rd_T26 l0 2).f1) - ((rd_T26 l0 0).f1))))) - (wrap64 ((wrap64 (((rd_T26 l0 1).f1) - ((rd_T26 l0 0).f1))) * (wrap64 (((rd_T26 l0 2).f0) - ((rd_T26 l0 0).f0))))))) ([] : List (List Int)) (wrap64 (-a1)) (wrap64 (((rd_T26 l0 1).f0) - ((rd_T26 l0 0).f0))) (wrap64 (((rd_T26 l0 1).f1) - ((rd_T26 l0 0).f1))) (wrap64 (((rd_T26 l0 2).f0) - ((rd_T26 l0 0).f0))) (wrap64 (((rd_T26 l0 2).f1) - ((rd_T26 l0 0).f1)))) else (none)) else (none)) else (none)) = some r := h
 clear h
 by_cases c3 : 1 < (l0.length : Int)
 ·rw [if_pos c3] at H
  have c3b0 : decide (1 < (l0.length : Int)) = true := decide_eq_true c3
  have c3b1 : decide (1 < l0.length) = true := decide_eq_true (by omega)
  clear c3
  by_cases c4 : 0 < (l0.length : Int)
  ·rw [if_pos c4] at H
   have c4b0 : decide (0 < (l0.length : Int)) = true := decide_eq_true c4
   have c4b1 : decide (0 < l0.length) = true := decide_eq_true (by omega)
   clear c4
   by_cases c5 : 2 < (l0.length : Int)
   ·rw [if_pos c5] at H
    have c5b0 : decide (2 < (l0.length : Int)) = true := decide_eq_true c5
    have c5b1 : decide (2 < l0.length) = true := decide_eq_true (by omega)
    clear c5
    have H' := Aside0.mk H
    clear H
    go_enter Try.func220, Try.ntmps220
    try go_wp2
    have n0_ := Aside0.mk (below_drew1 HB.out)
    clear HB
    have HB := n0_
    clear n0_
    have p2148 : 0 ≤ (1 : Int) := (by omega)
    have q2148 : 1 < (l0.length : Int) := of_decide_eq_true (by first | (with_reducible assumption) | assumption)
    obtain ⟨ad2148, e2148, hx2148_0, hx2148_1⟩ := at_T26 HR0.out 1 p2148 q2148
    have hw2148_1 := hx2148_1
    (try rw [show ((1 : Int)).toNat = 1 from rfl] at hw2148_1)
    (try rw [show 1 * 2 = 2 from rfl] at hw2148_1)
    (try simp only [Nat.reduceMul, Nat.reduceEqDiff, Go.Addr.add, ↓reduceIte] at hw2148_1)
    have hw2148_0 := hx2148_0
    (try rw [show ((1 : Int)).toNat = 1 from rfl] at hw2148_0)
    (try rw [show 1 * 2 = 2 from rfl] at hw2148_0)
    (try simp only [Nat.reduceMul, Nat.reduceEqDiff, Go.Addr.add, ↓reduceIte] at hw2148_0)
    cases e2148
    (try simp only [show (1 : Int).toNat = 1 from rfl, Nat.reduceMul, Nat.reduceEqDiff, Go.Addr.add, ↓reduceIte] at hx2148_0)
    (try simp only [show (1 : Int).toNat = 1 from rfl, Nat.reduceMul, Nat.reduceEqDiff, Go.Addr.add, ↓reduceIte] at hx2148_1)
    have qi2148 : (1 < l0.length) = True := eq_true (by omega)
    (try rw [show ((1 : Int)).toNat = 1 from rfl] at hx2148_0)
    (try rw [show 1 * 2 = 2 from rfl] at hx2148_0)
    (try rw [show ((1 : Int)).toNat = 1 from rfl] at hx2148_1)
    (try rw [show 1 * 2 = 2 from rfl] at hx2148_1)
    replace hx2148_0 := zc HB hx2148_0
    replace hx2148_1 := zc HB hx2148_1
    replace p2148 := eq_true p2148
    replace q2148 := eq_true q2148
    have p2149 : 0 ≤ (0 : Int) := (by omega)
    have q2149 : 0 < (l0.length : Int) := of_decide_eq_true (by first | (with_reducible assumption) | assumption)
    obtain ⟨ad2149, e2149, hx2149_0, hx2149_1⟩ := at_T26 HR0.out 0 p2149 q2149
    have hw2149_1 := hx2149_1
    (try rw [show ((0 : Int)).toNat = 0 from rfl] at hw2149_1)
    (try rw [show 0 * 2 = 0 from rfl] at hw2149_1)
    (try rw [Addr.add_zero'] at hw2149_1)
    have hw2149_0 := hx2149_0
    (try rw [show ((0 : Int)).toNat = 0 from rfl] at hw2149_0)
    (try rw [show 0 * 2 = 0 from rfl] at hw2149_0)
    (try rw [Addr.add_zero'] at hw2149_0)
    obtain rfl : ad2148 = ad2149 := (by injection e2149)
    have qi2149 : (0 < l0.length) = True := eq_true (by omega)
    (try rw [show ((0 : Int)).toNat = 0 from rfl] at hx2149_0)
    (try rw [show 0 * 2 = 0 from rfl] at hx2149_0)
    (try rw [Addr.add_zero'] at hx2149_0)
    (try rw [show ((0 : Int)).toNat = 0 from rfl] at hx2149_1)
    (try rw [show 0 * 2 = 0 from rfl] at hx2149_1)
    (try rw [Addr.add_zero'] at hx2149_1)
    replace hx2149_0 := zc HB hx2149_0
    replace hx2149_1 := zc HB hx2149_1
    replace p2149 := eq_true p2149
    replace q2149 := eq_true q2149
    have p2150 : 0 ≤ (1 : Int) := (by omega)
    have q2150 : 1 < (l0.length : Int) := of_decide_eq_true (by first | (with_reducible assumption) | assumption)
    obtain ⟨ad2150, e2150, hx2150_0, hx2150_1⟩ := at_T26 HR0.out 1 p2150 q2150
    have hw2150_1 := hx2150_1
    (try rw [show ((1 : Int)).toNat = 1 from rfl] at hw2150_1)
    (try rw [show 1 * 2 = 2 from rfl] at hw2150_1)
    (try simp only [Nat.reduceMul, Nat.reduceEqDiff, Go.Addr.add, ↓reduceIte] at hw2150_1)
    have hw2150_0 := hx2150_0
    (try rw [show ((1 : Int)).toNat = 1 from rfl] at hw2150_0)
    (try rw [show 1 * 2 = 2 from rfl] at hw2150_0)
    (try simp only [Nat.reduceMul, Nat.reduceEqDiff, Go.Addr.add, ↓reduceIte] at hw2150_0)
    obtain rfl : ad2148 = ad2150 := (by injection e2150)
    (try simp only [show (1 : Int).toNat = 1 from rfl, Nat.reduceMul, Nat.reduceEqDiff, Go.Addr.add, ↓reduceIte] at hx2150_0)
    (try simp only [show (1 : Int).toNat = 1 from rfl, Nat.reduceMul, Nat.reduceEqDiff, Go.Addr.add, ↓reduceIte] at hx2150_1)
    have qi2150 : (1 < l0.length) = True := eq_true (by omega)
    (try rw [show ((1 : Int)).toNat = 1 from rfl] at hx2150_0)
    (try rw [show 1 * 2 = 2 from rfl] at hx2150_0)
    (try rw [show ((1 : Int)).toNat = 1 from rfl] at hx2150_1)
    (try rw [show 1 * 2 = 2 from rfl] at hx2150_1)
    replace hx2150_0 := zc HB hx2150_0
    replace hx2150_1 := zc HB hx2150_1
    replace p2150 := eq_true p2150
    replace q2150 := eq_true q2150
    have p2151 : 0 ≤ (0 : Int) := (by omega)
    have q2151 : 0 < (l0.length : Int) := of_decide_eq_true (by first | (with_reducible assumption) | assumption)
    obtain ⟨ad2151, e2151, hx2151_0, hx2151_1⟩ := at_T26 HR0.out 0 p2151 q2151
    have hw2151_1 := hx2151_1
    (try rw [show ((0 : Int)).toNat = 0 from rfl] at hw2151_1)
    (try rw [show 0 * 2 = 0 from rfl] at hw2151_1)
    (try rw [Addr.add_zero'] at hw2151_1)
    have hw2151_0 := hx2151_0
    (try rw [show ((0 : Int)).toNat = 0 from rfl] at hw2151_0)
    (try rw [show 0 * 2 = 0 from rfl] at hw2151_0)
    (try rw [Addr.add_zero'] at hw2151_0)
    obtain rfl : ad2148 = ad2151 := (by injection e2151)
    have qi2151 : (0 < l0.length) = True := eq_true (by omega)
    (try rw [show ((0 : Int)).toNat = 0 from rfl] at hx2151_0)
    (try rw [show 0 * 2 = 0 from rfl] at hx2151_0)
    (try rw [Addr.add_zero'] at hx2151_0)
    (try rw [show ((0 : Int)).toNat = 0 from rfl] at hx2151_1)
    (try rw [show 0 * 2 = 0 from rfl] at hx2151_1)
    (try rw [Addr.add_zero'] at hx2151_1)
    replace hx2151_0 := zc HB hx2151_0
    replace hx2151_1 := zc HB hx2151_1
    replace p2151 := eq_true p2151
    replace q2151 := eq_true q2151
    refine start_ (n := 21) (S := fun w' => w'.cell? ⟨ad2148.block, ad2148.off + 2, none⟩ = some (.int .i64 ((rd_T26 l0 1).f0)) ∧ w'.cell? ⟨ad2148.block, ad2148.off + 2 + 1, none⟩ = some (.int .i64 ((rd_T26 l0 1).f1)) ∧ w'.cell? ad2148 = some (.int .i64 ((rd_T26 l0 0).f0)) ∧ w'.cell? ⟨ad2148.block, ad2148.off + 1, none⟩ = some (.int .i64 ((rd_T26 l0 0).f1)) ∧ w'.cell? ⟨ad2148.block, ad2148.off + 2, none⟩ = some (.int .i64 ((rd_T26 l0 1).f0)) ∧ w'.cell? ⟨ad2148.block, ad2148.off + 2 + 1, none⟩ = some (.int .i64 ((rd_T26 l0 1).f1)) ∧ w'.cell? ad2148 = some (.int .i64 ((rd_T26 l0 0).f0)) ∧ w'.cell? ⟨ad2148.block, ad2148.off + 1, none⟩ = some (.int .i64 ((rd_T26 l0 0).f1))) (ds := []) (zl 21 0) (by kernel_rfl) rfl rfl ⟨(zc HB hw2148_0), (zc HB hw2148_1), (zc HB hw2149_0), (zc HB hw2149_1), (zc HB hw2150_0), (zc HB hw2150_1), (zc HB hw2151_0), (zc HB hw2151_1)⟩ (fun hHeld => ?_); refine with_tabW spec_wiAll.tab1 spec_wiAll.bits1 (fun HT_ HW_ => ?_)
    generalize w.drew = w6 at HB hx2148_0 hx2148_1 hx2149_0 hx2149_1 hx2150_0 hx2150_1 hx2151_0 hx2151_1 hHeld ⊢
    refine zp 0 17 21 1 HT_ ?_
    refine zp 1 18 21 3 HT_ ?_
    refine zp 2 19 21 7 HT_ ?_
    refine zp 4 21 21 23 HT_ ?_
    refine zp 5 22 21 55 HT_ ?_
    refine zp 6 23 21 119 HT_ ?_
    refine zp 9 26 21 631 HT_ ?_
    refine zp 10 27 21 1655 HT_ ?_
    refine zp 11 28 21 3703 HT_ ?_
    refine zp 13 30 21 11895 HT_ ?_
    refine zp 14 31 21 28279 HT_ ?_
    refine zp 15 32 21 61047 HT_ ?_
    refine take_ (i := 3) (N := some 20) (v := ?_) (a' := ?_) (zl 21 61055) rfl rfl (take_ofW HT_.out HW_.out (by kernel_rfl)) (fun _ _ _ h => h) (Or.inl ⟨by rfl, ?_⟩) hHeld ?_ ?_
    rotate_left
    ·rintro w' ⟨s0, s1, s2, s3, s4, s5, s6, s7⟩
     go_simp
     with_reducible rfl
    rotate_left
    ·exact zs
    refine take_ (i := 7) (N := some 24) (v := ?_) (a' := ?_) (zl 21 61183) rfl rfl (take_ofW HT_.out HW_.out (by kernel_rfl)) (fun _ _ _ h => h) (Or.inl ⟨by rfl, ?_⟩) hHeld ?_ ?_
    rotate_left
    ·rintro w' ⟨s0, s1, s2, s3, s4, s5, s6, s7⟩
     go_simp
     with_reducible rfl
    rotate_left
    ·exact zs
    refine zp 8 25 21 61439 HT_ ?_
    refine take_ (i := 12) (N := some 29) (v := ?_) (a' := ?_) (zl 21 65535) rfl rfl (take_ofW HT_.out HW_.out (by kernel_rfl)) (fun _ _ _ h => h) (Or.inl ⟨by rfl, ?_⟩) hHeld ?_ ?_
    rotate_left
    ·rintro w' ⟨s0, s1, s2, s3, s4, s5, s6, s7⟩
     go_simp
     with_reducible rfl
    rotate_left
    ·exact zs
    refine take_ (i := 16) (N := some 33) (v := ?_) (a' := ?_) (zl 21 131071) rfl rfl (take_ofW HT_.out HW_.out (by kernel_rfl)) (fun _ _ _ h => h) (Or.inl ⟨by rfl, ?_⟩) hHeld ?_ ?_
    rotate_left
    ·rintro w' ⟨s0, s1, s2, s3, s4, s5, s6, s7⟩
     go_simp
     with_reducible rfl
    rotate_left
    ·exact zs
    refine zp 17 34 21 262143 HT_ ?_
    refine zp 18 35 21 524287 HT_ ?_
    refine one_ (i := 19) (N := some 5) (zl 21 1048575) rfl rfl (one_of HT_.out (by kernel_rfl)) (by decide) (fun K hK => ?_)
    refine box_step ?hg (N := 5) ?hd (cs := #[.int .i64 0, .int .i64 0]) (t := 26) ?hr ?_; (case hd => rfl); (case hg => rfl); (case hr => first | (go_simp; done) | (go_simp; rfl))
    intro gb2152 hg w7 hbox hb
    have n0_ := Aside0.mk (below_step zb hb)
    have n1_ := Aside0.mk (hbox)
    have n2_ := Aside0.mk ((by rw [hg]; exact (below_size zb) : w.heap.size ≤ gb2152))
    have n3_ := Aside0.mk ((by rw [hg]; exact (below_size zb) : w.heap.size ≤ gb2152))
    clear HB
    have HB := n0_
    have BK2152 := n1_
    have GW2152 := n2_
    have GE2152 := n3_
    clear n0_ n1_ n2_ n3_
    clear hb hbox hg
    refine hK.out _ _ ⟨(zc HB hw2148_0), (zc HB hw2148_1), (zc HB hw2149_0), (zc HB hw2149_1), (zc HB hw2150_0), (zc HB hw2150_1), (zc HB hw2151_0), (zc HB hw2151_1)⟩ (fun hHeld => ?_)
    clear hK K
    refine norm_ (a' := ?_) ?_ ?_
    rotate_left
    ·show Act.put _ (some 5) _ = _
     exact zs
    refine one_ (i := 20) (N := none) (zl 21 2097151) rfl rfl (one_of HT_.out (by kernel_rfl)) (by decide) (fun K hK => ?_)
    have hs8 : w7.cell? ⟨gb2152, 0, none⟩ = some (.int .i64 0) := (blk_cell BK2152.out 0).trans rfl
    have hfs8 := blk_frozen BK2152.out 0
    have hs9 : w7.cell? ⟨gb2152, 1, none⟩ = some (.int .i64 0) := (blk_cell BK2152.out 1).trans rfl
    have hfs9 := blk_frozen BK2152.out 1
    refine skip_ (w1 := ?_) (by rfl) rfl ?_ ?_
    rotate_left
    ·go_simp
     rfl
    refine hK.out _ _ ⟨((cell_far (p := ⟨gb2152, _, none⟩) (by first | exact Nat.ne_of_lt (Nat.lt_of_lt_of_le (by have := World.block_lt_of_cell? _ _ hw2148_0; first | rwa [add_block] at this | exact this) GW2152.out) | (rw [add_block]; exact Nat.ne_of_lt (Nat.lt_of_lt_of_le (by have := World.block_lt_of_cell? _ _ hw2148_0; first | rwa [add_block] at this | exact this) GW2152.out)) | (show (Addr.add _ _).block ≠ _; rw [add_block]; exact Nat.ne_of_lt (Nat.lt_of_lt_of_le (by have := World.block_lt_of_cell? _ _ hw2148_0; first | rwa [add_block] at this | exact this) GW2152.out)) | (dsimp only; exact Nat.ne_of_lt (Nat.lt_of_lt_of_le (by have := World.block_lt_of_cell? _ _ hw2148_0; first | rwa [add_block] at this | exact this) GW2152.out))) _).trans (((cell_far (p := ⟨gb2152, _, none⟩) (by first | exact Nat.ne_of_lt (Nat.lt_of_lt_of_le (by have := World.block_lt_of_cell? _ _ hw2148_0; first | rwa [add_block] at this | exact this) GW2152.out) | (rw [add_block]; exact Nat.ne_of_lt (Nat.lt_of_lt_of_le (by have := World.block_lt_of_cell? _ _ hw2148_0; first | rwa [add_block] at this | exact this) GW2152.out)) | (show (Addr.add _ _).block ≠ _; rw [add_block]; exact Nat.ne_of_lt (Nat.lt_of_lt_of_le (by have := World.block_lt_of_cell? _ _ hw2148_0; first | rwa [add_block] at this | exact this) GW2152.out)) | (dsimp only; exact Nat.ne_of_lt (Nat.lt_of_lt_of_le (by have := World.block_lt_of_cell? _ _ hw2148_0; first | rwa [add_block] at this | exact this) GW2152.out))) _).trans (hHeld.1)))), ((cell_far (p := ⟨gb2152, _, none⟩) (by first | exact Nat.ne_of_lt (Nat.lt_of_lt_of_le (by have := World.block_lt_of_cell? _ _ hw2148_1; first | rwa [add_block] at this | exact this) GW2152.out) | (rw [add_block]; exact Nat.ne_of_lt (Nat.lt_of_lt_of_le (by have := World.block_lt_of_cell? _ _ hw2148_1; first | rwa [add_block] at this | exact this) GW2152.out)) | (show (Addr.add _ _).block ≠ _; rw [add_block]; exact Nat.ne_of_lt (Nat.lt_of_lt_of_le (by have := World.block_lt_of_cell? _ _ hw2148_1; first | rwa [add_block] at this | exact this) GW2152.out)) | (dsimp only; exact Nat.ne_of_lt (Nat.lt_of_lt_of_le (by have := World.block_lt_of_cell? _ _ hw2148_1; first | rwa [add_block] at this | exact this) GW2152.out))) _).trans (((cell_far (p := ⟨gb2152, _, none⟩) (by first | exact Nat.ne_of_lt (Nat.lt_of_lt_of_le (by have := World.block_lt_of_cell? _ _ hw2148_1; first | rwa [add_block] at this | exact this) GW2152.out) | (rw [add_block]; exact Nat.ne_of_lt (Nat.lt_of_lt_of_le (by have := World.block_lt_of_cell? _ _ hw2148_1; first | rwa [add_block] at this | exact this) GW2152.out)) | (show (Addr.add _ _).block ≠ _; rw [add_block]; exact Nat.ne_of_lt (Nat.lt_of_lt_of_le (by have := World.block_lt_of_cell? _ _ hw2148_1; first | rwa [add_block] at this | exact this) GW2152.out)) | (dsimp only; exact Nat.ne_of_lt (Nat.lt_of_lt_of_le (by have := World.block_lt_of_cell? _ _ hw2148_1; first | rwa [add_block] at this | exact this) GW2152.out))) _).trans (hHeld.2.1)))), ((cell_far (p := ⟨gb2152, _, none⟩) (by first | exact Nat.ne_of_lt (Nat.lt_of_lt_of_le (by have := World.block_lt_of_cell? _ _ hw2149_0; first | rwa [add_block] at this | exact this) GW2152.out) | (rw [add_block]; exact Nat.ne_of_lt (Nat.lt_of_lt_of_le (by have := World.block_lt_of_cell? _ _ hw2149_0; first | rwa [add_block] at this | exact this) GW2152.out)) | (show (Addr.add _ _).block ≠ _; rw [add_block]; exact Nat.ne_of_lt (Nat.lt_of_lt_of_le (by have := World.block_lt_of_cell? _ _ hw2149_0; first | rwa [add_block] at this | exact this) GW2152.out)) | (dsimp only; exact Nat.ne_of_lt (Nat.lt_of_lt_of_le (by have := World.block_lt_of_cell? _ _ hw2149_0; first | rwa [add_block] at this | exact this) GW2152.out))) _).trans (((cell_far (p := ⟨gb2152, _, none⟩) (by first | exact Nat.ne_of_lt (Nat.lt_of_lt_of_le (by have := World.block_lt_of_cell? _ _ hw2149_0; first | rwa [add_block] at this | exact this) GW2152.out) | (rw [add_block]; exact Nat.ne_of_lt (Nat.lt_of_lt_of_le (by have := World.block_lt_of_cell? _ _ hw2149_0; first | rwa [add_block] at this | exact this) GW2152.out)) | (show (Addr.add _ _).block ≠ _; rw [add_block]; exact Nat.ne_of_lt (Nat.lt_of_lt_of_le (by have := World.block_lt_of_cell? _ _ hw2149_0; first | rwa [add_block] at this | exact this) GW2152.out)) | (dsimp only; exact Nat.ne_of_lt (Nat.lt_of_lt_of_le (by have := World.block_lt_of_cell? _ _ hw2149_0; first | rwa [add_block] at this | exact this) GW2152.out))) _).trans (hHeld.2.2.1)))), ((cell_far (p := ⟨gb2152, _, none⟩) (by first | exact Nat.ne_of_lt (Nat.lt_of_lt_of_le (by have := World.block_lt_of_cell? _ _ hw2149_1; first | rwa [add_block] at this | exact this) GW2152.out) | (rw [add_block]; exact Nat.ne_of_lt (Nat.lt_of_lt_of_le (by have := World.block_lt_of_cell? _ _ hw2149_1; first | rwa [add_block] at this | exact this) GW2152.out)) | (show (Addr.add _ _).block ≠ _; rw [add_block]; exact Nat.ne_of_lt (Nat.lt_of_lt_of_le (by have := World.block_lt_of_cell? _ _ hw2149_1; first | rwa [add_block] at this | exact this) GW2152.out)) | (dsimp only; exact Nat.ne_of_lt (Nat.lt_of_lt_of_le (by have := World.block_lt_of_cell? _ _ hw2149_1; first | rwa [add_block] at this | exact this) GW2152.out))) _).trans (((cell_far (p := ⟨gb2152, _, none⟩) (by first | exact Nat.ne_of_lt (Nat.lt_of_lt_of_le (by have := World.block_lt_of_cell? _ _ hw2149_1; first | rwa [add_block] at this | exact this) GW2152.out) | (rw [add_block]; exact Nat.ne_of_lt (Nat.lt_of_lt_of_le (by have := World.block_lt_of_cell? _ _ hw2149_1; first | rwa [add_block] at this | exact this) GW2152.out)) | (show (Addr.add _ _).block ≠ _; rw [add_block]; exact Nat.ne_of_lt (Nat.lt_of_lt_of_le (by have := World.block_lt_of_cell? _ _ hw2149_1; first | rwa [add_block] at this | exact this) GW2152.out)) | (dsimp only; exact Nat.ne_of_lt (Nat.lt_of_lt_of_le (by have := World.block_lt_of_cell? _ _ hw2149_1; first | rwa [add_block] at this | exact this) GW2152.out))) _).trans (hHeld.2.2.2.1)))), ((cell_far (p := ⟨gb2152, _, none⟩) (by first | exact Nat.ne_of_lt (Nat.lt_of_lt_of_le (by have := World.block_lt_of_cell? _ _ hw2150_0; first | rwa [add_block] at this | exact this) GW2152.out) | (rw [add_block]; exact Nat.ne_of_lt (Nat.lt_of_lt_of_le (by have := World.block_lt_of_cell? _ _ hw2150_0; first | rwa [add_block] at this | exact this) GW2152.out)) | (show (Addr.add _ _).block ≠ _; rw [add_block]; exact Nat.ne_of_lt (Nat.lt_of_lt_of_le (by have := World.block_lt_of_cell? _ _ hw2150_0; first | rwa [add_block] at this | exact this) GW2152.out)) | (dsimp only; exact Nat.ne_of_lt (Nat.lt_of_lt_of_le (by have := World.block_lt_of_cell? _ _ hw2150_0; first | rwa [add_block] at this | exact this) GW2152.out))) _).trans (((cell_far (p := ⟨gb2152, _, none⟩) (by first | exact Nat.ne_of_lt (Nat.lt_of_lt_of_le (by have := World.block_lt_of_cell? _ _ hw2150_0; first | rwa [add_block] at this | exact this) GW2152.out) | (rw [add_block]; exact Nat.ne_of_lt (Nat.lt_of_lt_of_le (by have := World.block_lt_of_cell? _ _ hw2150_0; first | rwa [add_block] at this | exact this) GW2152.out)) | (show (Addr.add _ _).block ≠ _; rw [add_block]; exact Nat.ne_of_lt (Nat.lt_of_lt_of_le (by have := World.block_lt_of_cell? _ _ hw2150_0; first | rwa [add_block] at this | exact this) GW2152.out)) | (dsimp only; exact Nat.ne_of_lt (Nat.lt_of_lt_of_le (by have := World.block_lt_of_cell? _ _ hw2150_0; first | rwa [add_block] at this | exact this) GW2152.out))) _).trans (hHeld.2.2.2.2.1)))), ((cell_far (p := ⟨gb2152, _, none⟩) (by first | exact Nat.ne_of_lt (Nat.lt_of_lt_of_le (by have := World.block_lt_of_cell? _ _ hw2150_1; first | rwa [add_block] at this | exact this) GW2152.out) | (rw [add_block]; exact Nat.ne_of_lt (Nat.lt_of_lt_of_le (by have := World.block_lt_of_cell? _ _ hw2150_1; first | rwa [add_block] at this | exact this) GW2152.out)) | (show (Addr.add _ _).block ≠ _; rw [add_block]; exact Nat.ne_of_lt (Nat.lt_of_lt_of_le (by have := World.block_lt_of_cell? _ _ hw2150_1; first | rwa [add_block] at this | exact this) GW2152.out)) | (dsimp only; exact Nat.ne_of_lt (Nat.lt_of_lt_of_le (by have := World.block_lt_of_cell? _ _ hw2150_1; first | rwa [add_block] at this | exact this) GW2152.out))) _).trans (((cell_far (p := ⟨gb2152, _, none⟩) (by first | exact Nat.ne_of_lt (Nat.lt_of_lt_of_le (by have := World.block_lt_of_cell? _ _ hw2150_1; first | rwa [add_block] at this | exact this) GW2152.out) | (rw [add_block]; exact Nat.ne_of_lt (Nat.lt_of_lt_of_le (by have := World.block_lt_of_cell? _ _ hw2150_1; first | rwa [add_block] at this | exact this) GW2152.out)) | (show (Addr.add _ _).block ≠ _; rw [add_block]; exact Nat.ne_of_lt (Nat.lt_of_lt_of_le (by have := World.block_lt_of_cell? _ _ hw2150_1; first | rwa [add_block] at this | exact this) GW2152.out)) | (dsimp only; exact Nat.ne_of_lt (Nat.lt_of_lt_of_le (by have := World.block_lt_of_cell? _ _ hw2150_1; first | rwa [add_block] at this | exact this) GW2152.out))) _).trans (hHeld.2.2.2.2.2.1)))), ((cell_far (p := ⟨gb2152, _, none⟩) (by first | exact Nat.ne_of_lt (Nat.lt_of_lt_of_le (by have := World.block_lt_of_cell? _ _ hw2151_0; first | rwa [add_block] at this | exact this) GW2152.out) | (rw [add_block]; exact Nat.ne_of_lt (Nat.lt_of_lt_of_le (by have := World.block_lt_of_cell? _ _ hw2151_0; first | rwa [add_block] at this | exact this) GW2152.out)) | (show (Addr.add _ _).block ≠ _; rw [add_block]; exact Nat.ne_of_lt (Nat.lt_of_lt_of_le (by have := World.block_lt_of_cell? _ _ hw2151_0; first | rwa [add_block] at this | exact this) GW2152.out)) | (dsimp only; exact Nat.ne_of_lt (Nat.lt_of_lt_of_le (by have := World.block_lt_of_cell? _ _ hw2151_0; first | rwa [add_block] at this | exact this) GW2152.out))) _).trans (((cell_far (p := ⟨gb2152, _, none⟩) (by first | exact Nat.ne_of_lt (Nat.lt_of_lt_of_le (by have := World.block_lt_of_cell? _ _ hw2151_0; first | rwa [add_block] at this | exact this) GW2152.out) | (rw [add_block]; exact Nat.ne_of_lt (Nat.lt_of_lt_of_le (by have := World.block_lt_of_cell? _ _ hw2151_0; first | rwa [add_block] at this | exact this) GW2152.out)) | (show (Addr.add _ _).block ≠ _; rw [add_block]; exact Nat.ne_of_lt (Nat.lt_of_lt_of_le (by have := World.block_lt_of_cell? _ _ hw2151_0; first | rwa [add_block] at this | exact this) GW2152.out)) | (dsimp only; exact Nat.ne_of_lt (Nat.lt_of_lt_of_le (by have := World.block_lt_of_cell? _ _ hw2151_0; first | rwa [add_block] at this | exact this) GW2152.out))) _).trans (hHeld.2.2.2.2.2.2.1)))), ((cell_far (p := ⟨gb2152, _, none⟩) (by first | exact Nat.ne_of_lt (Nat.lt_of_lt_of_le (by have := World.block_lt_of_cell? _ _ hw2151_1; first | rwa [add_block] at this | exact this) GW2152.out) | (rw [add_block]; exact Nat.ne_of_lt (Nat.lt_of_lt_of_le (by have := World.block_lt_of_cell? _ _ hw2151_1; first | rwa [add_block] at this | exact this) GW2152.out)) | (show (Addr.add _ _).block ≠ _; rw [add_block]; exact Nat.ne_of_lt (Nat.lt_of_lt_of_le (by have := World.block_lt_of_cell? _ _ hw2151_1; first | rwa [add_block] at this | exact this) GW2152.out)) | (dsimp only; exact Nat.ne_of_lt (Nat.lt_of_lt_of_le (by have := World.block_lt_of_cell? _ _ hw2151_1; first | rwa [add_block] at this | exact this) GW2152.out))) _).trans (((cell_far (p := ⟨gb2152, _, none⟩) (by first | exact Nat.ne_of_lt (Nat.lt_of_lt_of_le (by have := World.block_lt_of_cell? _ _ hw2151_1; first | rwa [add_block] at this | exact this) GW2152.out) | (rw [add_block]; exact Nat.ne_of_lt (Nat.lt_of_lt_of_le (by have := World.block_lt_of_cell? _ _ hw2151_1; first | rwa [add_block] at this | exact this) GW2152.out)) | (show (Addr.add _ _).block ≠ _; rw [add_block]; exact Nat.ne_of_lt (Nat.lt_of_lt_of_le (by have := World.block_lt_of_cell? _ _ hw2151_1; first | rwa [add_block] at this | exact this) GW2152.out)) | (dsimp only; exact Nat.ne_of_lt (Nat.lt_of_lt_of_le (by have := World.block_lt_of_cell? _ _ hw2151_1; first | rwa [add_block] at this | exact this) GW2152.out))) _).trans (hHeld.2.2.2.2.2.2.2))))⟩ (fun hHeld => ?_)
    clear hK K
    refine done_ (done_of HT_.out (by kernel_rfl)) ?_
    try go_wp2
    have n0_ : Aside0 (((w7.setCell ⟨gb2152, 0, none⟩ (.int .i64 (wrap64 (((rd_T26 l0 1).f0) - ((rd_T26 l0 0).f0))))).setCell ⟨gb2152, 1, none⟩ (.int .i64 (wrap64 (((rd_T26 l0 1).f1) - ((rd_T26 l0 0).f1))))).heap[gb2152]? = some (.cells #[.int .i64 (wrap64 (((rd_T26 l0 1).f0) - ((rd_T26 l0 0).f0))), .int .i64 (wrap64 (((rd_T26 l0 1).f1) - ((rd_T26 l0 0).f1)))] 26 (0, 0))) := ⟨by (with_reducible repeat (first | refine blk_drewN ?_ _ | refine blk_drew ?_ | refine blk_alloc ?_ _)); refine blk_put (cs := #[.int .i64 (wrap64 (((rd_T26 l0 1).f0) - ((rd_T26 l0 0).f0))), .int .i64 0]) ?_ 1 _ rfl; (with_reducible repeat (first | refine blk_drewN ?_ _ | refine blk_drew ?_ | refine blk_alloc ?_ _)); refine blk_put (cs := #[.int .i64 0, .int .i64 0]) ?_ 0 _ rfl; (with_reducible repeat (first | refine blk_drewN ?_ _ | refine blk_drew ?_ | refine blk_alloc ?_ _)); exact BK2152.out⟩
    have n1_ : Aside0 (Below w.heap.size w ((w7.setCell ⟨gb2152, 0, none⟩ (.int .i64 (wrap64 (((rd_T26 l0 1).f0) - ((rd_T26 l0 0).f0))))).setCell ⟨gb2152, 1, none⟩ (.int .i64 (wrap64 (((rd_T26 l0 1).f1) - ((rd_T26 l0 0).f1)))))) := ⟨zb⟩
    (try clear BK2152)
    (try clear HB)
    generalize ((w7.setCell ⟨gb2152, 0, none⟩ (.int .i64 (wrap64 (((rd_T26 l0 1).f0) - ((rd_T26 l0 0).f0))))).setCell ⟨gb2152, 1, none⟩ (.int .i64 (wrap64 (((rd_T26 l0 1).f1) - ((rd_T26 l0 0).f1))))) = w10 at n0_ n1_ ⊢
    have BK2152 := n0_
    have HB := n1_
    clear n0_ n1_
    have n0_ := Aside0.mk (blk_drew BK2152.out)
    have n1_ := Aside0.mk (below_drew1 HB.out)
    clear BK2152
    clear HB
    have BK2152 := n0_
    have HB := n1_
    clear n0_ n1_
    have p2153 : 0 ≤ (2 : Int) := (by omega)
    have q2153 : 2 < (l0.length : Int) := of_decide_eq_true (by first | (with_reducible assumption) | assumption)
    obtain ⟨ad2153, e2153, hx2153_0, hx2153_1⟩ := at_T26 HR0.out 2 p2153 q2153
    have hw2153_1 := hx2153_1
    (try rw [show ((2 : Int)).toNat = 2 from rfl] at hw2153_1)
    (try rw [show 2 * 2 = 4 from rfl] at hw2153_1)
    (try simp only [Nat.reduceMul, Nat.reduceEqDiff, Go.Addr.add, ↓reduceIte] at hw2153_1)
    have hw2153_0 := hx2153_0
    (try rw [show ((2 : Int)).toNat = 2 from rfl] at hw2153_0)
    (try rw [show 2 * 2 = 4 from rfl] at hw2153_0)
    (try simp only [Nat.reduceMul, Nat.reduceEqDiff, Go.Addr.add, ↓reduceIte] at hw2153_0)
    obtain rfl : ad2148 = ad2153 := (by injection e2153)
    (try simp only [show (2 : Int).toNat = 2 from rfl, Nat.reduceMul, Nat.reduceEqDiff, Go.Addr.add, ↓reduceIte] at hx2153_0)
    (try simp only [show (2 : Int).toNat = 2 from rfl, Nat.reduceMul, Nat.reduceEqDiff, Go.Addr.add, ↓reduceIte] at hx2153_1)
    have qi2153 : (2 < l0.length) = True := eq_true (by omega)
    (try rw [show ((2 : Int)).toNat = 2 from rfl] at hx2153_0)
    (try rw [show 2 * 2 = 4 from rfl] at hx2153_0)
    (try rw [show ((2 : Int)).toNat = 2 from rfl] at hx2153_1)
    (try rw [show 2 * 2 = 4 from rfl] at hx2153_1)
    replace hx2153_0 := zc HB hx2153_0
    replace hx2153_1 := zc HB hx2153_1
    replace p2153 := eq_true p2153
    replace q2153 := eq_true q2153
    have p2154 : 0 ≤ (0 : Int) := (by omega)
    have q2154 : 0 < (l0.length : Int) := of_decide_eq_true (by first | (with_reducible assumption) | assumption)
    obtain ⟨ad2154, e2154, hx2154_0, hx2154_1⟩ := at_T26 HR0.out 0 p2154 q2154
    have hw2154_1 := hx2154_1
    (try rw [show ((0 : Int)).toNat = 0 from rfl] at hw2154_1)
    (try rw [show 0 * 2 = 0 from rfl] at hw2154_1)
    (try rw [Addr.add_zero'] at hw2154_1)
    have hw2154_0 := hx2154_0
    (try rw [show ((0 : Int)).toNat = 0 from rfl] at hw2154_0)
    (try rw [show 0 * 2 = 0 from rfl] at hw2154_0)
    (try rw [Addr.add_zero'] at hw2154_0)
    obtain rfl : ad2148 = ad2154 := (by injection e2154)
    have qi2154 : (0 < l0.length) = True := eq_true (by omega)
    (try rw [show ((0 : Int)).toNat = 0 from rfl] at hx2154_0)
    (try rw [show 0 * 2 = 0 from rfl] at hx2154_0)
    (try rw [Addr.add_zero'] at hx2154_0)
    (try rw [show ((0 : Int)).toNat = 0 from rfl] at hx2154_1)
    (try rw [show 0 * 2 = 0 from rfl] at hx2154_1)
    (try rw [Addr.add_zero'] at hx2154_1)
    replace hx2154_0 := zc HB hx2154_0
    replace hx2154_1 := zc HB hx2154_1
    replace p2154 := eq_true p2154
    replace q2154 := eq_true q2154
    have p2155 : 0 ≤ (2 : Int) := (by omega)
    have q2155 : 2 < (l0.length : Int) := of_decide_eq_true (by first | (with_reducible assumption) | assumption)
    obtain ⟨ad2155, e2155, hx2155_0, hx2155_1⟩ := at_T26 HR0.out 2 p2155 q2155
    have hw2155_1 := hx2155_1
    (try rw [show ((2 : Int)).toNat = 2 from rfl] at hw2155_1)
    (try rw [show 2 * 2 = 4 from rfl] at hw2155_1)
    (try simp only [Nat.reduceMul, Nat.reduceEqDiff, Go.Addr.add, ↓reduceIte] at hw2155_1)
    have hw2155_0 := hx2155_0
    (try rw [show ((2 : Int)).toNat = 2 from rfl] at hw2155_0)
    (try rw [show 2 * 2 = 4 from rfl] at hw2155_0)
    (try simp only [Nat.reduceMul, Nat.reduceEqDiff, Go.Addr.add, ↓reduceIte] at hw2155_0)
    obtain rfl : ad2148 = ad2155 := (by injection e2155)
    (try simp only [show (2 : Int).toNat = 2 from rfl, Nat.reduceMul, Nat.reduceEqDiff, Go.Addr.add, ↓reduceIte] at hx2155_0)
    (try simp only [show (2 : Int).toNat = 2 from rfl, Nat.reduceMul, Nat.reduceEqDiff, Go.Addr.add, ↓reduceIte] at hx2155_1)
    have qi2155 : (2 < l0.length) = True := eq_true (by omega)
    (try rw [show ((2 : Int)).toNat = 2 from rfl] at hx2155_0)
    (try rw [show 2 * 2 = 4 from rfl] at hx2155_0)
    (try rw [show ((2 : Int)).toNat = 2 from rfl] at hx2155_1)
    (try rw [show 2 * 2 = 4 from rfl] at hx2155_1)
    replace hx2155_0 := zc HB hx2155_0
    replace hx2155_1 := zc HB hx2155_1
    replace p2155 := eq_true p2155
    replace q2155 := eq_true q2155
    have p2156 : 0 ≤ (0 : Int) := (by omega)
    have q2156 : 0 < (l0.length : Int) := of_decide_eq_true (by first | (with_reducible assumption) | assumption)
    obtain ⟨ad2156, e2156, hx2156_0, hx2156_1⟩ := at_T26 HR0.out 0 p2156 q2156
    have hw2156_1 := hx2156_1
    (try rw [show ((0 : Int)).toNat = 0 from rfl] at hw2156_1)
    (try rw [show 0 * 2 = 0 from rfl] at hw2156_1)
    (try rw [Addr.add_zero'] at hw2156_1)
    have hw2156_0 := hx2156_0
    (try rw [show ((0 : Int)).toNat = 0 from rfl] at hw2156_0)
    (try rw [show 0 * 2 = 0 from rfl] at hw2156_0)
    (try rw [Addr.add_zero'] at hw2156_0)
    obtain rfl : ad2148 = ad2156 := (by injection e2156)
    have qi2156 : (0 < l0.length) = True := eq_true (by omega)
    (try rw [show ((0 : Int)).toNat = 0 from rfl] at hx2156_0)
    (try rw [show 0 * 2 = 0 from rfl] at hx2156_0)
    (try rw [Addr.add_zero'] at hx2156_0)
    (try rw [show ((0 : Int)).toNat = 0 from rfl] at hx2156_1)
    (try rw [show 0 * 2 = 0 from rfl] at hx2156_1)
    (try rw [Addr.add_zero'] at hx2156_1)
    replace hx2156_0 := zc HB hx2156_0
    replace hx2156_1 := zc HB hx2156_1
    replace p2156 := eq_true p2156
    replace q2156 := eq_true q2156
    refine start_ (n := 21) (S := fun w' => w'.cell? ⟨ad2148.block, ad2148.off + 4, none⟩ = some (.int .i64 ((rd_T26 l0 2).f0)) ∧ w'.cell? ⟨ad2148.block, ad2148.off + 4 + 1, none⟩ = some (.int .i64 ((rd_T26 l0 2).f1)) ∧ w'.cell? ad2148 = some (.int .i64 ((rd_T26 l0 0).f0)) ∧ w'.cell? ⟨ad2148.block, ad2148.off + 1, none⟩ = some (.int .i64 ((rd_T26 l0 0).f1)) ∧ w'.cell? ⟨ad2148.block, ad2148.off + 4, none⟩ = some (.int .i64 ((rd_T26 l0 2).f0)) ∧ w'.cell? ⟨ad2148.block, ad2148.off + 4 + 1, none⟩ = some (.int .i64 ((rd_T26 l0 2).f1)) ∧ w'.cell? ad2148 = some (.int .i64 ((rd_T26 l0 0).f0)) ∧ w'.cell? ⟨ad2148.block, ad2148.off + 1, none⟩ = some (.int .i64 ((rd_T26 l0 0).f1))) (ds := []) (zl 21 0) (by kernel_rfl) rfl rfl ⟨(zc HB hw2153_0), (zc HB hw2153_1), (zc HB hw2154_0), (zc HB hw2154_1), (zc HB hw2155_0), (zc HB hw2155_1), (zc HB hw2156_0), (zc HB hw2156_1)⟩ (fun hHeld => ?_); refine with_tabW spec_wiAll.tab2 spec_wiAll.bits2 (fun HT_ HW_ => ?_)
    generalize w10.drew = w11 at BK2152 HB hx2153_0 hx2153_1 hx2154_0 hx2154_1 hx2155_0 hx2155_1 hx2156_0 hx2156_1 hHeld ⊢
    refine zp 0 36 21 1 HT_ ?_
    refine zp 1 37 21 3 HT_ ?_
    refine zp 2 38 21 7 HT_ ?_
    refine zp 4 40 21 23 HT_ ?_
    refine zp 5 41 21 55 HT_ ?_
    refine zp 6 42 21 119 HT_ ?_
    refine zp 9 45 21 631 HT_ ?_
    refine zp 10 46 21 1655 HT_ ?_
    refine zp 11 47 21 3703 HT_ ?_
    refine zp 13 49 21 11895 HT_ ?_
    refine zp 14 50 21 28279 HT_ ?_
    refine zp 15 51 21 61047 HT_ ?_
    refine take_ (i := 3) (N := some 39) (v := ?_) (a' := ?_) (zl 21 61055) rfl rfl (take_ofW HT_.out HW_.out (by kernel_rfl)) (fun _ _ _ h => h) (Or.inl ⟨by rfl, ?_⟩) hHeld ?_ ?_
    rotate_left
    ·rintro w' ⟨s0, s1, s2, s3, s4, s5, s6, s7⟩
     go_simp
     with_reducible rfl
    rotate_left
    ·exact zs
    refine take_ (i := 7) (N := some 43) (v := ?_) (a' := ?_) (zl 21 61183) rfl rfl (take_ofW HT_.out HW_.out (by kernel_rfl)) (fun _ _ _ h => h) (Or.inl ⟨by rfl, ?_⟩) hHeld ?_ ?_
    rotate_left
    ·rintro w' ⟨s0, s1, s2, s3, s4, s5, s6, s7⟩
     go_simp
     with_reducible rfl
    rotate_left
    ·exact zs
    refine zp 8 44 21 61439 HT_ ?_
    refine take_ (i := 12) (N := some 48) (v := ?_) (a' := ?_) (zl 21 65535) rfl rfl (take_ofW HT_.out HW_.out (by kernel_rfl)) (fun _ _ _ h => h) (Or.inl ⟨by rfl, ?_⟩) hHeld ?_ ?_
    rotate_left
    ·rintro w' ⟨s0, s1, s2, s3, s4, s5, s6, s7⟩
     go_simp
     with_reducible rfl
    rotate_left
    ·exact zs
    refine take_ (i := 16) (N := some 52) (v := ?_) (a' := ?_) (zl 21 131071) rfl rfl (take_ofW HT_.out HW_.out (by kernel_rfl)) (fun _ _ _ h => h) (Or.inl ⟨by rfl, ?_⟩) hHeld ?_ ?_
    rotate_left
    ·rintro w' ⟨s0, s1, s2, s3, s4, s5, s6, s7⟩
     go_simp
     with_reducible rfl
    rotate_left
    ·exact zs
    refine zp 17 53 21 262143 HT_ ?_
    refine zp 18 54 21 524287 HT_ ?_
    refine one_ (i := 19) (N := some 6) (zl 21 1048575) rfl rfl (one_of HT_.out (by kernel_rfl)) (by decide) (fun K hK => ?_)
    refine box_step ?hg (N := 6) ?hd (cs := #[.int .i64 0, .int .i64 0]) (t := 26) ?hr ?_; (case hd => rfl); (case hg => rfl); (case hr => first | (go_simp; done) | (go_simp; rfl))
    intro gb2157 hg w12 hbox hb
    have n0_ := Aside0.mk (blk_below (g := gb2152) (o := .cells #[.int .i64 (wrap64 (((rd_T26 l0 1).f0) - ((rd_T26 l0 0).f0))), .int .i64 (wrap64 (((rd_T26 l0 1).f1) - ((rd_T26 l0 0).f1)))] 26 (0, 0)) zk hb)
    have n1_ := Aside0.mk (below_step zb hb)
    have n2_ := Aside0.mk (hbox)
    have n3_ := Aside0.mk ((by rw [hg]; exact (below_size zb) : w.heap.size ≤ gb2157))
    have n4_ := Aside0.mk ((by rw [hg]; exact (below_size zb) : w.heap.size ≤ gb2157))
    have n5_ := Aside0.mk ((by rw [hg]; exact Nat.ne_of_lt (blk_lt (g := gb2152) (o := .cells #[.int .i64 (wrap64 (((rd_T26 l0 1).f0) - ((rd_T26 l0 0).f0))), .int .i64 (wrap64 (((rd_T26 l0 1).f1) - ((rd_T26 l0 0).f1)))] 26 (0, 0)) zk) : gb2152 ≠ gb2157))
    have n6_ := Aside0.mk ((by rw [hg]; exact Nat.ne_of_gt (blk_lt (g := gb2152) (o := .cells #[.int .i64 (wrap64 (((rd_T26 l0 1).f0) - ((rd_T26 l0 0).f0))), .int .i64 (wrap64 (((rd_T26 l0 1).f1) - ((rd_T26 l0 0).f1)))] 26 (0, 0)) zk) : gb2157 ≠ gb2152))
    clear BK2152
    clear HB
    have BK2152 := n0_
    have HB := n1_
    have BK2157 := n2_
    have GW2157 := n3_
    have GE2157 := n4_
    have NB2152_2157 := n5_
    have NB2157_2152 := n6_
    clear n0_ n1_ n2_ n3_ n4_ n5_ n6_
    clear hb hbox hg
    refine hK.out _ _ ⟨(zc HB hw2153_0), (zc HB hw2153_1), (zc HB hw2154_0), (zc HB hw2154_1), (zc HB hw2155_0), (zc HB hw2155_1), (zc HB hw2156_0), (zc HB hw2156_1)⟩ (fun hHeld => ?_)
    clear hK K
    refine norm_ (a' := ?_) ?_ ?_
    rotate_left
    ·show Act.put _ (some 6) _ = _
     exact zs
    refine one_ (i := 20) (N := none) (zl 21 2097151) rfl rfl (one_of HT_.out (by kernel_rfl)) (by decide) (fun K hK => ?_)
    have hs13 : w12.cell? ⟨gb2157, 0, none⟩ = some (.int .i64 0) := (blk_cell BK2157.out 0).trans rfl
    have hfs13 := blk_frozen BK2157.out 0
    have hns13_0 := NB2152_2157.out
    have hms13_0 := NB2157_2152.out
    have hs14 : w12.cell? ⟨gb2157, 1, none⟩ = some (.int .i64 0) := (blk_cell BK2157.out 1).trans rfl
    have hfs14 := blk_frozen BK2157.out 1
    have hns14_0 := NB2152_2157.out
    have hms14_0 := NB2157_2152.out
    refine skip_ (w1 := ?_) (by rfl) rfl ?_ ?_
    rotate_left
    ·go_simp
     rfl
    refine hK.out _ _ ⟨((cell_far (p := ⟨gb2157, _, none⟩) (by first | exact Nat.ne_of_lt (Nat.lt_of_lt_of_le (by have := World.block_lt_of_cell? _ _ hw2153_0; first | rwa [add_block] at this | exact this) GW2157.out) | (rw [add_block]; exact Nat.ne_of_lt (Nat.lt_of_lt_of_le (by have := World.block_lt_of_cell? _ _ hw2153_0; first | rwa [add_block] at this | exact this) GW2157.out)) | (show (Addr.add _ _).block ≠ _; rw [add_block]; exact Nat.ne_of_lt (Nat.lt_of_lt_of_le (by have := World.block_lt_of_cell? _ _ hw2153_0; first | rwa [add_block] at this | exact this) GW2157.out)) | (dsimp only; exact Nat.ne_of_lt (Nat.lt_of_lt_of_le (by have := World.block_lt_of_cell? _ _ hw2153_0; first | rwa [add_block] at this | exact this) GW2157.out))) _).trans (((cell_far (p := ⟨gb2157, _, none⟩) (by first | exact Nat.ne_of_lt (Nat.lt_of_lt_of_le (by have := World.block_lt_of_cell? _ _ hw2153_0; first | rwa [add_block] at this | exact this) GW2157.out) | (rw [add_block]; exact Nat.ne_of_lt (Nat.lt_of_lt_of_le (by have := World.block_lt_of_cell? _ _ hw2153_0; first | rwa [add_block] at this | exact this) GW2157.out)) | (show (Addr.add _ _).block ≠ _; rw [add_block]; exact Nat.ne_of_lt (Nat.lt_of_lt_of_le (by have := World.block_lt_of_cell? _ _ hw2153_0; first | rwa [add_block] at this | exact this) GW2157.out)) | (dsimp only; exact Nat.ne_of_lt (Nat.lt_of_lt_of_le (by have := World.block_lt_of_cell? _ _ hw2153_0; first | rwa [add_block] at this | exact this) GW2157.out))) _).trans (hHeld.1)))), ((cell_far (p := ⟨gb2157, _, none⟩) (by first | exact Nat.ne_of_lt (Nat.lt_of_lt_of_le (by have := World.block_lt_of_cell? _ _ hw2153_1; first | rwa [add_block] at this | exact this) GW2157.out) | (rw [add_block]; exact Nat.ne_of_lt (Nat.lt_of_lt_of_le (by have := World.block_lt_of_cell? _ _ hw2153_1; first | rwa [add_block] at this | exact this) GW2157.out)) | (show (Addr.add _ _).block ≠ _; rw [add_block]; exact Nat.ne_of_lt (Nat.lt_of_lt_of_le (by have := World.block_lt_of_cell? _ _ hw2153_1; first | rwa [add_block] at this | exact this) GW2157.out)) | (dsimp only; exact Nat.ne_of_lt (Nat.lt_of_lt_of_le (by have := World.block_lt_of_cell? _ _ hw2153_1; first | rwa [add_block] at this | exact this) GW2157.out))) _).trans (((cell_far (p := ⟨gb2157, _, none⟩) (by first | exact Nat.ne_of_lt (Nat.lt_of_lt_of_le (by have := World.block_lt_of_cell? _ _ hw2153_1; first | rwa [add_block] at this | exact this) GW2157.out) | (rw [add_block]; exact Nat.ne_of_lt (Nat.lt_of_lt_of_le (by have := World.block_lt_of_cell? _ _ hw2153_1; first | rwa [add_block] at this | exact this) GW2157.out)) | (show (Addr.add _ _).block ≠ _; rw [add_block]; exact Nat.ne_of_lt (Nat.lt_of_lt_of_le (by have := World.block_lt_of_cell? _ _ hw2153_1; first | rwa [add_block] at this | exact this) GW2157.out)) | (dsimp only; exact Nat.ne_of_lt (Nat.lt_of_lt_of_le (by have := World.block_lt_of_cell? _ _ hw2153_1; first | rwa [add_block] at this | exact this) GW2157.out))) _).trans (hHeld.2.1)))), ((cell_far (p := ⟨gb2157, _, none⟩) (by first | exact Nat.ne_of_lt (Nat.lt_of_lt_of_le (by have := World.block_lt_of_cell? _ _ hw2154_0; first | rwa [add_block] at this | exact this) GW2157.out) | (rw [add_block]; exact Nat.ne_of_lt (Nat.lt_of_lt_of_le (by have := World.block_lt_of_cell? _ _ hw2154_0; first | rwa [add_block] at this | exact this) GW2157.out)) | (show (Addr.add _ _).block ≠ _; rw [add_block]; exact Nat.ne_of_lt (Nat.lt_of_lt_of_le (by have := World.block_lt_of_cell? _ _ hw2154_0; first | rwa [add_block] at this | exact this) GW2157.out)) | (dsimp only; exact Nat.ne_of_lt (Nat.lt_of_lt_of_le (by have := World.block_lt_of_cell? _ _ hw2154_0; first | rwa [add_block] at this | exact this) GW2157.out))) _).trans (((cell_far (p := ⟨gb2157, _, none⟩) (by first | exact Nat.ne_of_lt (Nat.lt_of_lt_of_le (by have := World.block_lt_of_cell? _ _ hw2154_0; first | rwa [add_block] at this | exact this) GW2157.out) | (rw [add_block]; exact Nat.ne_of_lt (Nat.lt_of_lt_of_le (by have := World.block_lt_of_cell? _ _ hw2154_0; first | rwa [add_block] at this | exact this) GW2157.out)) | (show (Addr.add _ _).block ≠ _; rw [add_block]; exact Nat.ne_of_lt (Nat.lt_of_lt_of_le (by have := World.block_lt_of_cell? _ _ hw2154_0; first | rwa [add_block] at this | exact this) GW2157.out)) | (dsimp only; exact Nat.ne_of_lt (Nat.lt_of_lt_of_le (by have := World.block_lt_of_cell? _ _ hw2154_0; first | rwa [add_block] at this | exact this) GW2157.out))) _).trans (hHeld.2.2.1)))), ((cell_far (p := ⟨gb2157, _, none⟩) (by first | exact Nat.ne_of_lt (Nat.lt_of_lt_of_le (by have := World.block_lt_of_cell? _ _ hw2154_1; first | rwa [add_block] at this | exact this) GW2157.out) | (rw [add_block]; exact Nat.ne_of_lt (Nat.lt_of_lt_of_le (by have := World.block_lt_of_cell? _ _ hw2154_1; first | rwa [add_block] at this | exact this) GW2157.out)) | (show (Addr.add _ _).block ≠ _; rw [add_block]; exact Nat.ne_of_lt (Nat.lt_of_lt_of_le (by have := World.block_lt_of_cell? _ _ hw2154_1; first | rwa [add_block] at this | exact this) GW2157.out)) | (dsimp only; exact Nat.ne_of_lt (Nat.lt_of_lt_of_le (by have := World.block_lt_of_cell? _ _ hw2154_1; first | rwa [add_block] at this | exact this) GW2157.out))) _).trans (((cell_far (p := ⟨gb2157, _, none⟩) (by first | exact Nat.ne_of_lt (Nat.lt_of_lt_of_le (by have := World.block_lt_of_cell? _ _ hw2154_1; first | rwa [add_block] at this | exact this) GW2157.out) | (rw [add_block]; exact Nat.ne_of_lt (Nat.lt_of_lt_of_le (by have := World.block_lt_of_cell? _ _ hw2154_1; first | rwa [add_block] at this | exact this) GW2157.out)) | (show (Addr.add _ _).block ≠ _; rw [add_block]; exact Nat.ne_of_lt (Nat.lt_of_lt_of_le (by have := World.block_lt_of_cell? _ _ hw2154_1; first | rwa [add_block] at this | exact this) GW2157.out)) | (dsimp only; exact Nat.ne_of_lt (Nat.lt_of_lt_of_le (by have := World.block_lt_of_cell? _ _ hw2154_1; first | rwa [add_block] at this | exact this) GW2157.out))) _).trans (hHeld.2.2.2.1)))), ((cell_far (p := ⟨gb2157, _, none⟩) (by first | exact Nat.ne_of_lt (Nat.lt_of_lt_of_le (by have := World.block_lt_of_cell? _ _ hw2155_0; first | rwa [add_block] at this | exact this) GW2157.out) | (rw [add_block]; exact Nat.ne_of_lt (Nat.lt_of_lt_of_le (by have := World.block_lt_of_cell? _ _ hw2155_0; first | rwa [add_block] at this | exact this) GW2157.out)) | (show (Addr.add _ _).block ≠ _; rw [add_block]; exact Nat.ne_of_lt (Nat.lt_of_lt_of_le (by have := World.block_lt_of_cell? _ _ hw2155_0; first | rwa [add_block] at this | exact this) GW2157.out)) | (dsimp only; exact Nat.ne_of_lt (Nat.lt_of_lt_of_le (by have := World.block_lt_of_cell? _ _ hw2155_0; first | rwa [add_block] at this | exact this) GW2157.out))) _).trans (((cell_far (p := ⟨gb2157, _, none⟩) (by first | exact Nat.ne_of_lt (Nat.lt_of_lt_of_le (by have := World.block_lt_of_cell? _ _ hw2155_0; first | rwa [add_block] at this | exact this) GW2157.out) | (rw [add_block]; exact Nat.ne_of_lt (Nat.lt_of_lt_of_le (by have := World.block_lt_of_cell? _ _ hw2155_0; first | rwa [add_block] at this | exact this) GW2157.out)) | (show (Addr.add _ _).block ≠ _; rw [add_block]; exact Nat.ne_of_lt (Nat.lt_of_lt_of_le (by have := World.block_lt_of_cell? _ _ hw2155_0; first | rwa [add_block] at this | exact this) GW2157.out)) | (dsimp only; exact Nat.ne_of_lt (Nat.lt_of_lt_of_le (by have := World.block_lt_of_cell? _ _ hw2155_0; first | rwa [add_block] at this | exact this) GW2157.out))) _).trans (hHeld.2.2.2.2.1)))), ((cell_far (p := ⟨gb2157, _, none⟩) (by first | exact Nat.ne_of_lt (Nat.lt_of_lt_of_le (by have := World.block_lt_of_cell? _ _ hw2155_1; first | rwa [add_block] at this | exact this) GW2157.out) | (rw [add_block]; exact Nat.ne_of_lt (Nat.lt_of_lt_of_le (by have := World.block_lt_of_cell? _ _ hw2155_1; first | rwa [add_block] at this | exact this) GW2157.out)) | (show (Addr.add _ _).block ≠ _; rw [add_block]; exact Nat.ne_of_lt (Nat.lt_of_lt_of_le (by have := World.block_lt_of_cell? _ _ hw2155_1; first | rwa [add_block] at this | exact this) GW2157.out)) | (dsimp only; exact Nat.ne_of_lt (Nat.lt_of_lt_of_le (by have := World.block_lt_of_cell? _ _ hw2155_1; first | rwa [add_block] at this | exact this) GW2157.out))) _).trans (((cell_far (p := ⟨gb2157, _, none⟩) (by first | exact Nat.ne_of_lt (Nat.lt_of_lt_of_le (by have := World.block_lt_of_cell? _ _ hw2155_1; first | rwa [add_block] at this | exact this) GW2157.out) | (rw [add_block]; exact Nat.ne_of_lt (Nat.lt_of_lt_of_le (by have := World.block_lt_of_cell? _ _ hw2155_1; first | rwa [add_block] at this | exact this) GW2157.out)) | (show (Addr.add _ _).block ≠ _; rw [add_block]; exact Nat.ne_of_lt (Nat.lt_of_lt_of_le (by have := World.block_lt_of_cell? _ _ hw2155_1; first | rwa [add_block] at this | exact this) GW2157.out)) | (dsimp only; exact Nat.ne_of_lt (Nat.lt_of_lt_of_le (by have := World.block_lt_of_cell? _ _ hw2155_1; first | rwa [add_block] at this | exact this) GW2157.out))) _).trans (hHeld.2.2.2.2.2.1)))), ((cell_far (p := ⟨gb2157, _, none⟩) (by first | exact Nat.ne_of_lt (Nat.lt_of_lt_of_le (by have := World.block_lt_of_cell? _ _ hw2156_0; first | rwa [add_block] at this | exact this) GW2157.out) | (rw [add_block]; exact Nat.ne_of_lt (Nat.lt_of_lt_of_le (by have := World.block_lt_of_cell? _ _ hw2156_0; first | rwa [add_block] at this | exact this) GW2157.out)) | (show (Addr.add _ _).block ≠ _; rw [add_block]; exact Nat.ne_of_lt (Nat.lt_of_lt_of_le (by have := World.block_lt_of_cell? _ _ hw2156_0; first | rwa [add_block] at this | exact this) GW2157.out)) | (dsimp only; exact Nat.ne_of_lt (Nat.lt_of_lt_of_le (by have := World.block_lt_of_cell? _ _ hw2156_0; first | rwa [add_block] at this | exact this) GW2157.out))) _).trans (((cell_far (p := ⟨gb2157, _, none⟩) (by first | exact Nat.ne_of_lt (Nat.lt_of_lt_of_le (by have := World.block_lt_of_cell? _ _ hw2156_0; first | rwa [add_block] at this | exact this) GW2157.out) | (rw [add_block]; exact Nat.ne_of_lt (Nat.lt_of_lt_of_le (by have := World.block_lt_of_cell? _ _ hw2156_0; first | rwa [add_block] at this | exact this) GW2157.out)) | (show (Addr.add _ _).block ≠ _; rw [add_block]; exact Nat.ne_of_lt (Nat.lt_of_lt_of_le (by have := World.block_lt_of_cell? _ _ hw2156_0; first | rwa [add_block] at this | exact this) GW2157.out)) | (dsimp only; exact Nat.ne_of_lt (Nat.lt_of_lt_of_le (by have := World.block_lt_of_cell? _ _ hw2156_0; first | rwa [add_block] at this | exact this) GW2157.out))) _).trans (hHeld.2.2.2.2.2.2.1)))), ((cell_far (p := ⟨gb2157, _, none⟩) (by first | exact Nat.ne_of_lt (Nat.lt_of_lt_of_le (by have := World.block_lt_of_cell? _ _ hw2156_1; first | rwa [add_block] at this | exact this) GW2157.out) | (rw [add_block]; exact Nat.ne_of_lt (Nat.lt_of_lt_of_le (by have := World.block_lt_of_cell? _ _ hw2156_1; first | rwa [add_block] at this | exact this) GW2157.out)) | (show (Addr.add _ _).block ≠ _; rw [add_block]; exact Nat.ne_of_lt (Nat.lt_of_lt_of_le (by have := World.block_lt_of_cell? _ _ hw2156_1; first | rwa [add_block] at this | exact this) GW2157.out)) | (dsimp only; exact Nat.ne_of_lt (Nat.lt_of_lt_of_le (by have := World.block_lt_of_cell? _ _ hw2156_1; first | rwa [add_block] at this | exact this) GW2157.out))) _).trans (((cell_far (p := ⟨gb2157, _, none⟩) (by first | exact Nat.ne_of_lt (Nat.lt_of_lt_of_le (by have := World.block_lt_of_cell? _ _ hw2156_1; first | rwa [add_block] at this | exact this) GW2157.out) | (rw [add_block]; exact Nat.ne_of_lt (Nat.lt_of_lt_of_le (by have := World.block_lt_of_cell? _ _ hw2156_1; first | rwa [add_block] at this | exact this) GW2157.out)) | (show (Addr.add _ _).block ≠ _; rw [add_block]; exact Nat.ne_of_lt (Nat.lt_of_lt_of_le (by have := World.block_lt_of_cell? _ _ hw2156_1; first | rwa [add_block] at this | exact this) GW2157.out)) | (dsimp only; exact Nat.ne_of_lt (Nat.lt_of_lt_of_le (by have := World.block_lt_of_cell? _ _ hw2156_1; first | rwa [add_block] at this | exact this) GW2157.out))) _).trans (hHeld.2.2.2.2.2.2.2))))⟩ (fun hHeld => ?_)
    clear hK K
    refine done_ (done_of HT_.out (by kernel_rfl)) ?_
    have hnb15 := NB2152_2157.out
    have hnc15 := NB2157_2152.out
    have hcz16_0 : w12.cell? ⟨gb2152, 0, none⟩ = some (.int .i64 (wrap64 (((rd_T26 l0 1).f0) - ((rd_T26 l0 0).f0)))) := (blk_cell BK2152.out 0).trans rfl
    have hcz16_1 : w12.cell? ⟨gb2152, 1, none⟩ = some (.int .i64 (wrap64 (((rd_T26 l0 1).f1) - ((rd_T26 l0 0).f1)))) := (blk_cell BK2152.out 1).trans rfl
    have hfz16_0 := blk_frozen BK2152.out 0
    have hfz16_1 := blk_frozen BK2152.out 1
    have hcz17_0 : w12.cell? ⟨gb2157, 0, none⟩ = some (.int .i64 0) := (blk_cell BK2157.out 0).trans rfl
    have hcz17_1 : w12.cell? ⟨gb2157, 1, none⟩ = some (.int .i64 0) := (blk_cell BK2157.out 1).trans rfl
    have hfz17_0 := blk_frozen BK2157.out 0
    have hfz17_1 := blk_frozen BK2157.out 1
    try go_wp2
    go_loopg [8, 9] k (fun kq v8 v9 w' => ∃ (x8_1 : List (List Int)) (x9_1 : Int), v9 = .int .i64 x9_1 ∧ Aside0 (spec_wiAll.l0 kq l0 a1 (wrap64 ((wrap64 ((wrap64 (((rd_T26 l0 1).f0) - ((rd_T26 l0 0).f0))) * (wrap64 (((rd_T26 l0 2).f1) - ((rd_T26 l0 0).f1))))) - (wrap64 ((wrap64 (((rd_T26 l0 1).f1) - ((rd_T26 l0 0).f1))) * (wrap64 (((rd_T26 l0 2).f0) - ((rd_T26 l0 0).f0))))))) x8_1 x9_1 (wrap64 (((rd_T26 l0 1).f0) - ((rd_T26 l0 0).f0))) (wrap64 (((rd_T26 l0 1).f1) - ((rd_T26 l0 0).f1))) (wrap64 (((rd_T26 l0 2).f0) - ((rd_T26 l0 0).f0))) (wrap64 (((rd_T26 l0 2).f1) - ((rd_T26 l0 0).f1))) = some r) ∧ Aside0 (kq ≤ k) ∧ Aside0 (Kd.N (Kd.slice 3 (Kd.int .i64)) 29 w' w.heap.size (fun k_ => (w.heap.size ≤ k_) ∧ k_ ≠ gb2152 ∧ k_ ≠ gb2157) v8 x8_1) ∧ Aside0 (w'.heap[gb2152]? = some (.cells #[.int .i64 (wrap64 (((rd_T26 l0 1).f0) - ((rd_T26 l0 0).f0))), .int .i64 (wrap64 (((rd_T26 l0 1).f1) - ((rd_T26 l0 0).f1)))] 26 (0, 0))) ∧ Aside0 (w'.heap[gb2157]? = some (.cells #[.int .i64 (wrap64 (((rd_T26 l0 2).f0) - ((rd_T26 l0 0).f0))), .int .i64 (wrap64 (((rd_T26 l0 2).f1) - ((rd_T26 l0 0).f1)))] 26 (0, 0))) ∧ Aside0 (Below w.heap.size w w'))
    case atStart => exact ⟨(([] : List (List Int))), (wrap64 (-a1)), (by first | rfl | (simp; done) | (simp [*]; done)), H', ⟨Nat.le_refl _⟩, ⟨by first | exact Kd.S_nil _ _ _ _ _ | exact Kd.N_nil _ _ _ _ _ | exact Kd.V_nil _ _ _ _ _ | exact Kd.Q_nil _ _ _ _ _ | exact Kd.R_nil _ _ _ _ _⟩, ⟨by (with_reducible repeat (first | refine blk_drewN ?_ _ | refine blk_drew ?_ | refine blk_alloc ?_ _)); refine blk_far ?_ NB2152_2157.out _; (with_reducible repeat (first | refine blk_drewN ?_ _ | refine blk_drew ?_ | refine blk_alloc ?_ _)); refine blk_far ?_ NB2152_2157.out _; (with_reducible repeat (first | refine blk_drewN ?_ _ | refine blk_drew ?_ | refine blk_alloc ?_ _)); exact BK2152.out⟩, ⟨by (with_reducible repeat (first | refine blk_drewN ?_ _ | refine blk_drew ?_ | refine blk_alloc ?_ _)); refine blk_put (cs := #[.int .i64 (wrap64 (((rd_T26 l0 2).f0) - ((rd_T26 l0 0).f0))), .int .i64 0]) ?_ 1 _ rfl; (with_reducible repeat (first | refine blk_drewN ?_ _ | refine blk_drew ?_ | refine blk_alloc ?_ _)); refine blk_put (cs := #[.int .i64 0, .int .i64 0]) ?_ 0 _ rfl; (with_reducible repeat (first | refine blk_drewN ?_ _ | refine blk_drew ?_ | refine blk_alloc ?_ _)); exact BK2157.out⟩, ⟨zb⟩⟩
    case round =>
     clear H'
     try clear c1
     try clear p2
     try clear q2
     try clear hx2
     try clear qi2
     try clear p6
     try clear c15
     try clear hcz16_0
     try clear hcz16_1
     try clear hcz17_0
     try clear hcz17_1
     try clear hfz16_0
     try clear hfz16_1
     try clear hfz17_0
     try clear hfz17_1
     try clear hx2148_0
     try clear hx2148_1
     try clear hx2149_0
     try clear hx2149_1
     try clear hx2150_0
     try clear hx2150_1
     try clear hx2151_0
     try clear hx2151_1
     try clear hx2153_0
     try clear hx2153_1
     try clear hx2154_0
     try clear hx2154_1
     try clear hx2155_0
     try clear hx2155_1
     try clear hx2156_0
     try clear hx2156_1
     try clear p2148
     try clear p2149
     try clear p2150
     try clear p2151
     try clear p2153
     try clear p2154
     try clear p2155
     try clear p2156
     try clear q2148
     try clear q2149
     try clear q2150
     try clear q2151
     try clear q2153
     try clear q2154
     try clear q2155
     try clear q2156
     obtain ⟨x8_1, x9_1, rfl, HA, HK1, HO_8, BK2152, BK2157, HB⟩ := hrel
     cases gk with
     | zero => exact absurd HA.out (by simp [spec_wiAll.l0])
     | succ k1 =>
      have H := HA.out
      clear HA
      simp only [spec_wiAll.l0] at H
      by_cases c18 : x9_1 ≤ a1
      ·rw [if_pos c18] at H
       have c18b0 : decide (x9_1 ≤ a1) = true := decide_eq_true c18
       clear c18
       have H' := Aside0.mk H
       clear H
       go_wp2
       go_loopg [8, 10] k1 (fun kq v8 v10 w' => ∃ (x8_2 : List (List Int)) (x10_2 : Int), v10 = .int .i64 x10_2 ∧ Aside0 (spec_wiAll.l1 kq l0 a1 (wrap64 ((wrap64 ((wrap64 (((rd_T26 l0 1).f0) - ((rd_T26 l0 0).f0))) * (wrap64 (((rd_T26 l0 2).f1) - ((rd_T26 l0 0).f1))))) - (wrap64 ((wrap64 (((rd_T26 l0 1).f1) - ((rd_T26 l0 0).f1))) * (wrap64 (((rd_T26 l0 2).f0) - ((rd_T26 l0 0).f0))))))) x8_2 x9_1 x10_2 (wrap64 (((rd_T26 l0 1).f0) - ((rd_T26 l0 0).f0))) (wrap64 (((rd_T26 l0 1).f1) - ((rd_T26 l0 0).f1))) (wrap64 (((rd_T26 l0 2).f0) - ((rd_T26 l0 0).f0))) (wrap64 (((rd_T26 l0 2).f1) - ((rd_T26 l0 0).f1))) = some r) ∧ Aside0 (kq ≤ k1) ∧ Aside0 (Kd.N (Kd.slice 3 (Kd.int .i64)) 29 w' w.heap.size (fun k_ => (w.heap.size ≤ k_) ∧ k_ ≠ gb2152 ∧ k_ ≠ gb2157) v8 x8_2) ∧ Aside0 (w'.heap[gb2152]? = some (.cells #[.int .i64 (wrap64 (((rd_T26 l0 1).f0) - ((rd_T26 l0 0).f0))), .int .i64 (wrap64 (((rd_T26 l0 1).f1) - ((rd_T26 l0 0).f1)))] 26 (0, 0))) ∧ Aside0 (w'.heap[gb2157]? = some (.cells #[.int .i64 (wrap64 (((rd_T26 l0 2).f0) - ((rd_T26 l0 0).f0))), .int .i64 (wrap64 (((rd_T26 l0 2).f1) - ((rd_T26 l0 0).f1)))] 26 (0, 0))) ∧ Aside0 (Below w.heap.size w w'))
       case atStart => exact ⟨(x8_1), (wrap64 (-a1)), (by first | rfl | (simp; done) | (simp [*]; done)), H', ⟨Nat.le_refl _⟩, ⟨by (with_reducible repeat (first | apply Kd.N_alloc | apply Kd.N_drewN | apply Kd.N_drew)); exact HO_8.out⟩, ⟨zk⟩, ⟨zk⟩, ⟨zb⟩⟩
       case round =>
        clear H'
        try clear c1
        try clear p2
        try clear q2
        try clear hx2
        try clear qi2
        try clear p6
        try clear c15
        try clear c18
        try clear c18b0
        try clear hcz16_0
        try clear hcz16_1
        try clear hcz17_0
        try clear hcz17_1
        try clear hfz16_0
        try clear hfz16_1
        try clear hfz17_0
        try clear hfz17_1
        try clear hx2148_0
        try clear hx2148_1
        try clear hx2149_0
        try clear hx2149_1
        try clear hx2150_0
        try clear hx2150_1
        try clear hx2151_0
        try clear hx2151_1
        try clear hx2153_0
        try clear hx2153_1
        try clear hx2154_0
        try clear hx2154_1
        try clear hx2155_0
        try clear hx2155_1
        try clear hx2156_0
        try clear hx2156_1
        try clear p2
        try clear p2148
        try clear p2149
        try clear p2150
        try clear p2151
        try clear p2153
        try clear p2154
        try clear p2155
        try clear p2156
        try clear p6
        try clear q2
        try clear q2148
        try clear q2149
        try clear q2150
        try clear q2151
        try clear q2153
        try clear q2154
        try clear q2155
        try clear q2156
        obtain ⟨x8_2, x10_2, rfl, HA, HK2, HO_8, BK2152, BK2157, HB⟩ := hrel
        cases gk with
        | zero => exact absurd HA.out (by simp [spec_wiAll.l1])
        | succ k2 =>
         have H := HA.out
         clear HA
         simp only [spec_wiAll.l1] at H
         by_cases c19 : x10_2 ≤ a1
         ·rw [if_pos c19] at H
          have c19b0 : decide (x10_2 ≤ a1) = true := decide_eq_true c19
          clear c19
          have HC20 := Aside0.mk H
          clear H
          try go_wp2
          have n0_ := Aside0.mk (Kd.N_drew HO_8.out)
          have n1_ := Aside0.mk (blk_drew BK2152.out)
          have n2_ := Aside0.mk (blk_drew BK2157.out)
          have n3_ := Aside0.mk (below_drew1 HB.out)
          clear HO_8
          clear BK2152
          clear BK2157
          clear HB
          have HO_8 := n0_
          have BK2152 := n1_
          have BK2157 := n2_
          have HB := n3_
          clear n0_ n1_ n2_ n3_
          refine start_ (n := 20) (S := fun w' => w'.cell? ⟨gb2157, 0, none⟩ = some (.int .i64 (wrap64 (((rd_T26 l0 2).f0) - ((rd_T26 l0 0).f0)))) ∧ w'.cell? ⟨gb2157, 1, none⟩ = some (.int .i64 (wrap64 (((rd_T26 l0 2).f1) - ((rd_T26 l0 0).f1)))) ∧ w'.cell? ⟨gb2152, 0, none⟩ = some (.int .i64 (wrap64 (((rd_T26 l0 1).f0) - ((rd_T26 l0 0).f0)))) ∧ w'.cell? ⟨gb2152, 1, none⟩ = some (.int .i64 (wrap64 (((rd_T26 l0 1).f1) - ((rd_T26 l0 0).f1))))) (ds := []) (zl 20 0) (by kernel_rfl) rfl rfl ⟨(blk_cell BK2157.out 0).trans rfl, (blk_cell BK2157.out 1).trans rfl, (blk_cell BK2152.out 0).trans rfl, (blk_cell BK2152.out 1).trans rfl⟩ (fun hHeld => ?_); refine with_tabW spec_wiAll.tab11 spec_wiAll.bits11 (fun HT_ HW_ => ?_)
          generalize wr.drew = w21 at HO_8 BK2152 BK2157 HB hHeld ⊢
          refine zp 0 80 20 1 HT_ ?_
          refine zp 1 81 20 3 HT_ ?_
          refine zp 4 84 20 19 HT_ ?_
          refine zp 5 85 20 51 HT_ ?_
          refine zp 9 89 20 563 HT_ ?_
          refine zp 10 90 20 1587 HT_ ?_
          refine zp 13 93 20 9779 HT_ ?_
          refine zp 14 94 20 26163 HT_ ?_
          refine take_ (i := 2) (N := some 82) (v := ?_) (a' := ?_) (zl 20 26167) rfl rfl (take_ofW HT_.out HW_.out (by kernel_rfl)) (fun _ _ _ h => h) (Or.inl ⟨by rfl, ?_⟩) hHeld ?_ ?_
          rotate_left
          ·rintro w' ⟨s0, s1, s2, s3⟩
           go_simp
           with_reducible rfl
          rotate_left
          ·exact zs
          refine zp 3 83 20 26175 HT_ ?_
          refine take_ (i := 6) (N := some 86) (v := ?_) (a' := ?_) (zl 20 26239) rfl rfl (take_ofW HT_.out HW_.out (by kernel_rfl)) (fun _ _ _ h => h) (Or.inl ⟨by rfl, ?_⟩) hHeld ?_ ?_
          rotate_left
          ·rintro w' ⟨s0, s1, s2, s3⟩
           go_simp
           with_reducible rfl
          rotate_left
          ·exact zs
          refine zp 7 87 20 26367 HT_ ?_
          refine zp 8 88 20 26623 HT_ ?_
          refine zp 18 11 20 288767 HT_ ?_
          refine take_ (i := 11) (N := some 91) (v := ?_) (a' := ?_) (zl 20 290815) rfl rfl (take_ofW HT_.out HW_.out (by kernel_rfl)) (fun _ _ _ h => h) (Or.inl ⟨by rfl, ?_⟩) hHeld ?_ ?_
          rotate_left
          ·rintro w' ⟨s0, s1, s2, s3⟩
           go_simp
           with_reducible rfl
          rotate_left
          ·exact zs
          refine zp 12 92 20 294911 HT_ ?_
          refine take_ (i := 15) (N := some 95) (v := ?_) (a' := ?_) (zl 20 327679) rfl rfl (take_ofW HT_.out HW_.out (by kernel_rfl)) (fun _ _ _ h => h) (Or.inl ⟨by rfl, ?_⟩) hHeld ?_ ?_
          rotate_left
          ·rintro w' ⟨s0, s1, s2, s3⟩
           go_simp
           with_reducible rfl
          rotate_left
          ·exact zs
          refine zp 16 96 20 393215 HT_ ?_
          refine zp 17 97 20 524287 HT_ ?_
          refine zp 19 12 20 1048575 HT_ ?_
          refine done_ (done_of HT_.out (by kernel_rfl)) ?_
          go_upto_region 12 with (fail)
          go_cut [107] (fun v107 wc => ∃ (kq : Nat) (x107_19 : Bool), v107 = .bool x107_19 ∧ Aside0 (spec_wiAll.j2 kq l0 a1 (wrap64 ((wrap64 ((wrap64 (((rd_T26 l0 1).f0) - ((rd_T26 l0 0).f0))) * (wrap64 (((rd_T26 l0 2).f1) - ((rd_T26 l0 0).f1))))) - (wrap64 ((wrap64 (((rd_T26 l0 1).f1) - ((rd_T26 l0 0).f1))) * (wrap64 (((rd_T26 l0 2).f0) - ((rd_T26 l0 0).f0))))))) x8_2 x9_1 x10_2 (wrap64 ((wrap64 (x9_1 * (wrap64 (((rd_T26 l0 2).f1) - ((rd_T26 l0 0).f1))))) - (wrap64 (x10_2 * (wrap64 (((rd_T26 l0 1).f1) - ((rd_T26 l0 0).f1))))))) (wrap64 ((wrap64 (x10_2 * (wrap64 (((rd_T26 l0 1).f0) - ((rd_T26 l0 0).f0))))) - (wrap64 (x9_1 * (wrap64 (((rd_T26 l0 2).f0) - ((rd_T26 l0 0).f0))))))) x107_19 (wrap64 (((rd_T26 l0 1).f0) - ((rd_T26 l0 0).f0))) (wrap64 (((rd_T26 l0 1).f1) - ((rd_T26 l0 0).f1))) (wrap64 (((rd_T26 l0 2).f0) - ((rd_T26 l0 0).f0))) (wrap64 (((rd_T26 l0 2).f1) - ((rd_T26 l0 0).f1))) = some r) ∧ Aside0 (kq ≤ k2) ∧ Aside0 (Kd.N (Kd.slice 3 (Kd.int .i64)) 29 wc w.heap.size (fun k_ => (w.heap.size ≤ k_) ∧ k_ ≠ gb2152 ∧ k_ ≠ gb2157) u8 x8_2) ∧ Aside0 (wc.heap[gb2152]? = some (.cells #[.int .i64 (wrap64 (((rd_T26 l0 1).f0) - ((rd_T26 l0 0).f0))), .int .i64 (wrap64 (((rd_T26 l0 1).f1) - ((rd_T26 l0 0).f1)))] 26 (0, 0))) ∧ Aside0 (wc.heap[gb2157]? = some (.cells #[.int .i64 (wrap64 (((rd_T26 l0 2).f0) - ((rd_T26 l0 0).f0))), .int .i64 (wrap64 (((rd_T26 l0 2).f1) - ((rd_T26 l0 0).f1)))] 26 (0, 0))) ∧ Aside0 (Below w.heap.size w wc))
          case first =>
           have H := HC20.out
           clear HC20
           by_cases c22 : (wrap64 ((wrap64 ((wrap64 (((rd_T26 l0 1).f0) - ((rd_T26 l0 0).f0))) * (wrap64 (((rd_T26 l0 2).f1) - ((rd_T26 l0 0).f1))))) - (wrap64 ((wrap64 (((rd_T26 l0 1).f1) - ((rd_T26 l0 0).f1))) * (wrap64 (((rd_T26 l0 2).f0) - ((rd_T26 l0 0).f0))))))) = 0
           ·rw [if_pos c22] at H
            exact absurd H (by simp)
           ·rw [if_neg c22] at H
            have c22b0 : ((wrap64 ((wrap64 ((wrap64 (((rd_T26 l0 1).f0) - ((rd_T26 l0 0).f0))) * (wrap64 (((rd_T26 l0 2).f1) - ((rd_T26 l0 0).f1))))) - (wrap64 ((wrap64 (((rd_T26 l0 1).f1) - ((rd_T26 l0 0).f1))) * (wrap64 (((rd_T26 l0 2).f0) - ((rd_T26 l0 0).f0))))))) == 0) = false := beq_eq_false_iff_ne.mpr c22
            have c22b1 : ((wrap64 ((wrap64 ((wrap64 (((rd_T26 l0 1).f0) - ((rd_T26 l0 0).f0))) * (wrap64 (((rd_T26 l0 2).f1) - ((rd_T26 l0 0).f1))))) - (wrap64 ((wrap64 (((rd_T26 l0 1).f1) - ((rd_T26 l0 0).f1))) * (wrap64 (((rd_T26 l0 2).f0) - ((rd_T26 l0 0).f0))))))) != 0) = true := bne_iff_ne.mpr c22
            (first | rw [c22b0] | (simp only [i64_w, i32_w]; rw [c22b0]) | skip)
            by_cases c23 : (Int.tmod (wrap64 ((wrap64 (x9_1 * (wrap64 (((rd_T26 l0 2).f1) - ((rd_T26 l0 0).f1))))) - (wrap64 (x10_2 * (wrap64 (((rd_T26 l0 1).f1) - ((rd_T26 l0 0).f1))))))) (wrap64 ((wrap64 ((wrap64 (((rd_T26 l0 1).f0) - ((rd_T26 l0 0).f0))) * (wrap64 (((rd_T26 l0 2).f1) - ((rd_T26 l0 0).f1))))) - (wrap64 ((wrap64 (((rd_T26 l0 1).f1) - ((rd_T26 l0 0).f1))) * (wrap64 (((rd_T26 l0 2).f0) - ((rd_T26 l0 0).f0)))))))) = 0
            ·rw [if_pos c23] at H
             have c23b0 : ((Int.tmod (wrap64 ((wrap64 (x9_1 * (wrap64 (((rd_T26 l0 2).f1) - ((rd_T26 l0 0).f1))))) - (wrap64 (x10_2 * (wrap64 (((rd_T26 l0 1).f1) - ((rd_T26 l0 0).f1))))))) (wrap64 ((wrap64 ((wrap64 (((rd_T26 l0 1).f0) - ((rd_T26 l0 0).f0))) * (wrap64 (((rd_T26 l0 2).f1) - ((rd_T26 l0 0).f1))))) - (wrap64 ((wrap64 (((rd_T26 l0 1).f1) - ((rd_T26 l0 0).f1))) * (wrap64 (((rd_T26 l0 2).f0) - ((rd_T26 l0 0).f0)))))))) == 0) = true := beq_iff_eq.mpr c23
             have c23b1 : ((Int.tmod (wrap64 ((wrap64 (x9_1 * (wrap64 (((rd_T26 l0 2).f1) - ((rd_T26 l0 0).f1))))) - (wrap64 (x10_2 * (wrap64 (((rd_T26 l0 1).f1) - ((rd_T26 l0 0).f1))))))) (wrap64 ((wrap64 ((wrap64 (((rd_T26 l0 1).f0) - ((rd_T26 l0 0).f0))) * (wrap64 (((rd_T26 l0 2).f1) - ((rd_T26 l0 0).f1))))) - (wrap64 ((wrap64 (((rd_T26 l0 1).f1) - ((rd_T26 l0 0).f1))) * (wrap64 (((rd_T26 l0 2).f0) - ((rd_T26 l0 0).f0)))))))) != 0) = false := bne_eq_false_iff_eq.mpr c23
             clear c23
             have H' := Aside0.mk H
             clear H
             go_wp2
             go_meet
             case rel => exact ⟨_, (((Int.tmod (wrap64 ((wrap64 (x10_2 * (wrap64 (((rd_T26 l0 1).f0) - ((rd_T26 l0 0).f0))))) - (wrap64 (x9_1 * (wrap64 (((rd_T26 l0 2).f0) - ((rd_T26 l0 0).f0))))))) (wrap64 ((wrap64 ((wrap64 (((rd_T26 l0 1).f0) - ((rd_T26 l0 0).f0))) * (wrap64 (((rd_T26 l0 2).f1) - ((rd_T26 l0 0).f1))))) - (wrap64 ((wrap64 (((rd_T26 l0 1).f1) - ((rd_T26 l0 0).f1))) * (wrap64 (((rd_T26 l0 2).f0) - ((rd_T26 l0 0).f0)))))))) != 0)), (by first | rfl | (simp; done) | (simp [*]; done)), H', ⟨by have := HK1.out; have := HK2.out; first | omega | exact Nat.le_refl _⟩, ⟨by (with_reducible repeat (first | apply Kd.N_alloc | apply Kd.N_drewN | apply Kd.N_drew)); exact HO_8.out⟩, ⟨zk⟩, ⟨zk⟩, ⟨zb⟩⟩
            ·rw [if_neg c23] at H
             have c23b0 : ((Int.tmod (wrap64 ((wrap64 (x9_1 * (wrap64 (((rd_T26 l0 2).f1) - ((rd_T26 l0 0).f1))))) - (wrap64 (x10_2 * (wrap64 (((rd_T26 l0 1).f1) - ((rd_T26 l0 0).f1))))))) (wrap64 ((wrap64 ((wrap64 (((rd_T26 l0 1).f0) - ((rd_T26 l0 0).f0))) * (wrap64 (((rd_T26 l0 2).f1) - ((rd_T26 l0 0).f1))))) - (wrap64 ((wrap64 (((rd_T26 l0 1).f1) - ((rd_T26 l0 0).f1))) * (wrap64 (((rd_T26 l0 2).f0) - ((rd_T26 l0 0).f0)))))))) == 0) = false := beq_eq_false_iff_ne.mpr c23
             have c23b1 : ((Int.tmod (wrap64 ((wrap64 (x9_1 * (wrap64 (((rd_T26 l0 2).f1) - ((rd_T26 l0 0).f1))))) - (wrap64 (x10_2 * (wrap64 (((rd_T26 l0 1).f1) - ((rd_T26 l0 0).f1))))))) (wrap64 ((wrap64 ((wrap64 (((rd_T26 l0 1).f0) - ((rd_T26 l0 0).f0))) * (wrap64 (((rd_T26 l0 2).f1) - ((rd_T26 l0 0).f1))))) - (wrap64 ((wrap64 (((rd_T26 l0 1).f1) - ((rd_T26 l0 0).f1))) * (wrap64 (((rd_T26 l0 2).f0) - ((rd_T26 l0 0).f0)))))))) != 0) = true := bne_iff_ne.mpr c23
             have H' := Aside0.mk H
             clear H
             go_wp2
             go_meet
             case rel => exact ⟨_, (true), (by first | rfl | (simp; done) | (simp [*]; done)), H', ⟨by have := HK1.out; have := HK2.out; first | omega | exact Nat.le_refl _⟩, ⟨by (with_reducible repeat (first | apply Kd.N_alloc | apply Kd.N_drewN | apply Kd.N_drew)); exact HO_8.out⟩, ⟨zk⟩, ⟨zk⟩, ⟨zb⟩⟩
          case rest =>
           clear HC20
           try clear c1
           try clear c2
           try clear p2
           try clear q2
           try clear hx2
           try clear qi2
           try clear p6
           try clear c15
           try clear c18
           try clear c18b0
           try clear c19
           try clear c19b0
           try clear p21
           try clear q21
           try clear hx21
           try clear qi21
           try clear c22
           try clear c22b0
           try clear c22b1
           try clear c23
           try clear c23b0
           try clear c23b1
           try clear hcz16_0
           try clear hcz16_1
           try clear hcz17_0
           try clear hcz17_1
           try clear hfz16_0
           try clear hfz16_1
           try clear hfz17_0
           try clear hfz17_1
           try clear hx2148_0
           try clear hx2148_1
           try clear hx2149_0
           try clear hx2149_1
           try clear hx2150_0
           try clear hx2150_1
           try clear hx2151_0
           try clear hx2151_1
           try clear hx2153_0
           try clear hx2153_1
           try clear hx2154_0
           try clear hx2154_1
           try clear hx2155_0
           try clear hx2155_1
           try clear hx2156_0
           try clear hx2156_1
           try clear p2
           try clear p2148
           try clear p2149
           try clear p2150
           try clear p2151
           try clear p2153
           try clear p2154
           try clear p2155
           try clear p2156
           try clear p6
           try clear q2
           try clear q2148
           try clear q2149
           try clear q2150
           try clear q2151
           try clear q2153
           try clear q2154
           try clear q2155
           try clear q2156
           obtain ⟨kq, x107_19, rfl, HA, HJ19, HO_8, BK2152, BK2157, HB⟩ := hcut
           cases kq with
           | zero => exact absurd HA.out (by simp [spec_wiAll.j2])
           | succ kj19 =>
            have H := HA.out
            clear HA
            simp only [spec_wiAll.j2] at H
            by_cases c24 : x107_19 = true
            ·subst c24
             have H1 : (spec_wiAll.l1 kj19 l0 a1 (wrap64 ((wrap64 ((wrap64 (((rd_T26 l0 1).f0) - ((rd_T26 l0 0).f0))) * (wrap64 (((rd_T26 l0 2).f1) - ((rd_T26 l0 0).f1))))) - (wrap64 ((wrap64 (((rd_T26 l0 1).f1) - ((rd_T26 l0 0).f1))) * (wrap64 (((rd_T26 l0 2).f0) - ((rd_T26 l0 0).f0))))))) x8_2 x9_1 (wrap64 (x10_2 + 1)) (wrap64 (((rd_T26 l0 1).f0) - ((rd_T26 l0 0).f0))) (wrap64 (((rd_T26 l0 1).f1) - ((rd_T26 l0 0).f1))) (wrap64 (((rd_T26 l0 2).f0) - ((rd_T26 l0 0).f0))) (wrap64 (((rd_T26 l0 2).f1) - ((rd_T26 l0 0).f1)))) = some r := by rw [if_pos rfl] at H; exact H
             clear H
             have H := H1
             clear H1
             have H' := Aside0.mk H
             clear H
             go_wp2
             go_roundg kj19
             case measure => have := HK1.out; have := HK2.out; have := HJ19.out; omega
             case rel => exact ⟨(x8_2), (wrap64 (x10_2 + 1)), (by first | rfl | (simp; done) | (simp [*]; done)), H', ⟨by have := HK1.out; have := HK2.out; have := HJ19.out; omega⟩, ⟨by (with_reducible repeat (first | apply Kd.N_alloc | apply Kd.N_drewN | apply Kd.N_drew)); exact HO_8.out⟩, ⟨zk⟩, ⟨zk⟩, ⟨zb⟩⟩
            ·replace c24 := Bool.eq_false_iff.mpr c24
             subst c24
             have H1 : (if (wrap64 ((wrap64 ((wrap64 (((rd_T26 l0 1).f0) - ((rd_T26 l0 0).f0))) * (wrap64 (((rd_T26 l0 2).f1) - ((rd_T26 l0 0).f1))))) - (wrap64 ((wrap64 (((rd_T26 l0 1).f1) - ((rd_T26 l0 0).f1))) * (wrap64 (((rd_T26 l0 2).f0) - ((rd_T26 l0 0).f0))))))) = 0 then (none) else (if (wrap64 (Int.tdiv (wrap64 ((wrap64 (x9_1 * (wrap64 (((rd_T26 l0 2).f1) - ((rd_T26 l0 0).f1))))) - (wrap64 (x10_2 * (wrap64 (((rd_T26 l0 1).f1) - ((rd_T26 l0 0).f1))))))) (wrap64 ((wrap64 ((wrap64 (((rd_T26 l0 1).f0) - ((rd_T26 l0 0).f0))) * (wrap64 (((rd_T26 l0 2).f1) - ((rd_T26 l0 0).f1))))) - (wrap64 ((wrap64 (((rd_T26 l0 1).f1) - ((rd_T26 l0 0).f1))) * (wrap64 (((rd_T26 l0 2).f0) - ((rd_T26 l0 0).f0))))))))) < 0 then (spec_wiAll.j3 kj19 l0 a1 (wrap64 ((wrap64 ((wrap64 (((rd_T26 l0 1).f0) - ((rd_T26 l0 0).f0))) * (wrap64 (((rd_T26 l0 2).f1) - ((rd_T26 l0 0).f1))))) - (wrap64 ((wrap64 (((rd_T26 l0 1).f1) - ((rd_T26 l0 0).f1))) * (wrap64 (((rd_T26 l0 2).f0) - ((rd_T26 l0 0).f0))))))) x8_2 x9_1 x10_2 (wrap64 (Int.tdiv (wrap64 ((wrap64 (x9_1 * (wrap64 (((rd_T26 l0 2).f1) - ((rd_T26 l0 0).f1))))) - (wrap64 (x10_2 * (wrap64 (((rd_T26 l0 1).f1) - ((rd_T26 l0 0).f1))))))) (wrap64 ((wrap64 ((wrap64 (((rd_T26 l0 1).f0) - ((rd_T26 l0 0).f0))) * (wrap64 (((rd_T26 l0 2).f1) - ((rd_T26 l0 0).f1))))) - (wrap64 ((wrap64 (((rd_T26 l0 1).f1) - ((rd_T26 l0 0).f1))) * (wrap64 (((rd_T26 l0 2).f0) - ((rd_T26 l0 0).f0))))))))) (wrap64 (Int.tdiv (wrap64 ((wrap64 (x10_2 * (wrap64 (((rd_T26 l0 1).f0) - ((rd_T26 l0 0).f0))))) - (wrap64 (x9_1 * (wrap64 (((rd_T26 l0 2).f0) - ((rd_T26 l0 0).f0))))))) (wrap64 ((wrap64 ((wrap64 (((rd_T26 l0 1).f0) - ((rd_T26 l0 0).f0))) * (wrap64 (((rd_T26 l0 2).f1) - ((rd_T26 l0 0).f1))))) - (wrap64 ((wrap64 (((rd_T26 l0 1).f1) - ((rd_T26 l0 0).f1))) * (wrap64 (((rd_T26 l0 2).f0) - ((rd_T26 l0 0).f0))))))))) true (wrap64 (((rd_T26 l0 1).f0) - ((rd_T26 l0 0).f0))) (wrap64 (((rd_T26 l0 1).f1) - ((rd_T26 l0 0).f1))) (wrap64 (((rd_T26 l0 2).f0) - ((rd_T26 l0 0).f0))) (wrap64 (((rd_T26 l0 2).f1) - ((rd_T26 l0 0).f1)))) else (if (wrap64 (Int.tdiv (wrap64 ((wrap64 (x9_1 * (wrap64 (((rd_T26 l0 2).f1) - ((rd_T26 l0 0).f1))))) - (wrap64 (x10_2 * (wrap64 (((rd_T26 l0 1).f1) - ((rd_T26 l0 0).f1))))))) (wrap64 ((wrap64 ((wrap64 (((rd_T26 l0 1).f0) - ((rd_T26 l0 0).f0))) * (wrap64 (((rd_T26 l0 2).f1) - ((rd_T26 l0 0).f1))))) - (wrap64 ((wrap64 (((rd_T26 l0 1).f1) - ((rd_T26 l0 0).f1))) * (wrap64 (((rd_T26 l0 2).f0) - ((rd_T26 l0 0).f0))))))))) = 0 then (if (wrap64 (Int.tdiv (wrap64 ((wrap64 (x10_2 * (wrap64 (((rd_T26 l0 1).f0) - ((rd_T26 l0 0).f0))))) - (wrap64 (x9_1 * (wrap64 (((rd_T26 l0 2).f0) - ((rd_T26 l0 0).f0))))))) (wrap64 ((wrap64 ((wrap64 (((rd_T26 l0 1).f0) - ((rd_T26 l0 0).f0))) * (wrap64 (((rd_T26 l0 2).f1) - ((rd_T26 l0 0).f1))))) - (wrap64 ((wrap64 (((rd_T26 l0 1).f1) - ((rd_T26 l0 0).f1))) * (wrap64 (((rd_T26 l0 2).f0) - ((rd_T26 l0 0).f0))))))))) < 1 then (spec_wiAll.j3 kj19 l0 a1 (wrap64 ((wrap64 ((wrap64 (((rd_T26 l0 1).f0) - ((rd_T26 l0 0).f0))) * (wrap64 (((rd_T26 l0 2).f1) - ((rd_T26 l0 0).f1))))) - (wrap64 ((wrap64 (((rd_T26 l0 1).f1) - ((rd_T26 l0 0).f1))) * (wrap64 (((rd_T26 l0 2).f0) - ((rd_T26 l0 0).f0))))))) x8_2 x9_1 x10_2 (wrap64 (Int.tdiv (wrap64 ((wrap64 (x9_1 * (wrap64 (((rd_T26 l0 2).f1) - ((rd_T26 l0 0).f1))))) - (wrap64 (x10_2 * (wrap64 (((rd_T26 l0 1).f1) - ((rd_T26 l0 0).f1))))))) (wrap64 ((wrap64 ((wrap64 (((rd_T26 l0 1).f0) - ((rd_T26 l0 0).f0))) * (wrap64 (((rd_T26 l0 2).f1) - ((rd_T26 l0 0).f1))))) - (wrap64 ((wrap64 (((rd_T26 l0 1).f1) - ((rd_T26 l0 0).f1))) * (wrap64 (((rd_T26 l0 2).f0) - ((rd_T26 l0 0).f0))))))))) (wrap64 (Int.tdiv (wrap64 ((wrap64 (x10_2 * (wrap64 (((rd_T26 l0 1).f0) - ((rd_T26 l0 0).f0))))) - (wrap64 (x9_1 * (wrap64 (((rd_T26 l0 2).f0) - ((rd_T26 l0 0).f0))))))) (wrap64 ((wrap64 ((wrap64 (((rd_T26 l0 1).f0) - ((rd_T26 l0 0).f0))) * (wrap64 (((rd_T26 l0 2).f1) - ((rd_T26 l0 0).f1))))) - (wrap64 ((wrap64 (((rd_T26 l0 1).f1) - ((rd_T26 l0 0).f1))) * (wrap64 (((rd_T26 l0 2).f0) - ((rd_T26 l0 0).f0))))))))) true (wrap64 (((rd_T26 l0 1).f0) - ((rd_T26 l0 0).f0))) (wrap64 (((rd_T26 l0 1).f1) - ((rd_T26 l0 0).f1))) (wrap64 (((rd_T26 l0 2).f0) - ((rd_T26 l0 0).f0))) (wrap64 (((rd_T26 l0 2).f1) - ((rd_T26 l0 0).f1)))) else ((spec_pgCommon.f kj19 (wrap64 (Int.tdiv (wrap64 ((wrap64 (x9_1 * (wrap64 (((rd_T26 l0 2).f1) - ((rd_T26 l0 0).f1))))) - (wrap64 (x10_2 * (wrap64 (((rd_T26 l0 1).f1) - ((rd_T26 l0 0).f1))))))) (wrap64 ((wrap64 ((wrap64 (((rd_T26 l0 1).f0) - ((rd_T26 l0 0).f0))) * (wrap64 (((rd_T26 l0 2).f1) - ((rd_T26 l0 0).f1))))) - (wrap64 ((wrap64 (((rd_T26 l0 1).f1) - ((rd_T26 l0 0).f1))) * (wrap64 (((rd_T26 l0 2).f0) - ((rd_T26 l0 0).f0))))))))) (wrap64 (Int.tdiv (wrap64 ((wrap64 (x10_2 * (wrap64 (((rd_T26 l0 1).f0) - ((rd_T26 l0 0).f0))))) - (wrap64 (x9_1 * (wrap64 (((rd_T26 l0 2).f0) - ((rd_T26 l0 0).f0))))))) (wrap64 ((wrap64 ((wrap64 (((rd_T26 l0 1).f0) - ((rd_T26 l0 0).f0))) * (wrap64 (((rd_T26 l0 2).f1) - ((rd_T26 l0 0).f1))))) - (wrap64 ((wrap64 (((rd_T26 l0 1).f1) - ((rd_T26 l0 0).f1))) * (wrap64 (((rd_T26 l0 2).f0) - ((rd_T26 l0 0).f0)))))))))).bind fun t2158 => (if t2158 = 1 then ((spec_wiWidth.f kj19 l0 (wrap64 (Int.tdiv (wrap64 ((wrap64 (x9_1 * (wrap64 (((rd_T26 l0 2).f1) - ((rd_T26 l0 0).f1))))) - (wrap64 (x10_2 * (wrap64 (((rd_T26 l0 1).f1) - ((rd_T26 l0 0).f1))))))) (wrap64 ((wrap64 ((wrap64 (((rd_T26 l0 1).f0) - ((rd_T26 l0 0).f0))) * (wrap64 (((rd_T26 l0 2).f1) - ((rd_T26 l0 0).f1))))) - (wrap64 ((wrap64 (((rd_T26 l0 1).f1) - ((rd_T26 l0 0).f1))) * (wrap64 (((rd_T26 l0 2).f0) - ((rd_T26 l0 0).f0))))))))) (wrap64 (Int.tdiv (wrap64 ((wrap64 (x10_2 * (wrap64 (((rd_T26 l0 1).f0) - ((rd_T26 l0 0).f0))))) - (wrap64 (x9_1 * (wrap64 (((rd_T26 l0 2).f0) - ((rd_T26 l0 0).f0))))))) (wrap64 ((wrap64 ((wrap64 (((rd_T26 l0 1).f0) - ((rd_T26 l0 0).f0))) * (wrap64 (((rd_T26 l0 2).f1) - ((rd_T26 l0 0).f1))))) - (wrap64 ((wrap64 (((rd_T26 l0 1).f1) - ((rd_T26 l0 0).f1))) * (wrap64 (((rd_T26 l0 2).f0) - ((rd_T26 l0 0).f0)))))))))).bind fun t2159 => (spec_wiAll.j3 kj19 l0 a1 (wrap64 ((wrap64 ((wrap64 (((rd_T26 l0 1).f0) - ((rd_T26 l0 0).f0))) * (wrap64 (((rd_T26 l0 2).f1) - ((rd_T26 l0 0).f1))))) - (wrap64 ((wrap64 (((rd_T26 l0 1).f1) - ((rd_T26 l0 0).f1))) * (wrap64 (((rd_T26 l0 2).f0) - ((rd_T26 l0 0).f0))))))) x8_2 x9_1 x10_2 (wrap64 (Int.tdiv (wrap64 ((wrap64 (x9_1 * (wrap64 (((rd_T26 l0 2).f1) - ((rd_T26 l0 0).f1))))) - (wrap64 (x10_2 * (wrap64 (((rd_T26 l0 1).f1) - ((rd_T26 l0 0).f1))))))) (wrap64 ((wrap64 ((wrap64 (((rd_T26 l0 1).f0) - ((rd_T26 l0 0).f0))) * (wrap64 (((rd_T26 l0 2).f1) - ((rd_T26 l0 0).f1))))) - (wrap64 ((wrap64 (((rd_T26 l0 1).f1) - ((rd_T26 l0 0).f1))) * (wrap64 (((rd_T26 l0 2).f0) - ((rd_T26 l0 0).f0))))))))) (wrap64 (Int.tdiv (wrap64 ((wrap64 (x10_2 * (wrap64 (((rd_T26 l0 1).f0) - ((rd_T26 l0 0).f0))))) - (wrap64 (x9_1 * (wrap64 (((rd_T26 l0 2).f0) - ((rd_T26 l0 0).f0))))))) (wrap64 ((wrap64 ((wrap64 (((rd_T26 l0 1).f0) - ((rd_T26 l0 0).f0))) * (wrap64 (((rd_T26 l0 2).f1) - ((rd_T26 l0 0).f1))))) - (wrap64 ((wrap64 (((rd_T26 l0 1).f1) - ((rd_T26 l0 0).f1))) * (wrap64 (((rd_T26 l0 2).f0) - ((rd_T26 l0 0).f0))))))))) (decide (t2159 > a1)) (wrap64 (((rd_T26 l0 1).f0) - ((rd_T26 l0 0).f0))) (wrap64 (((rd_T26 l0 1).f1) - ((rd_T26 l0 0).f1))) (wrap64 (((rd_T26 l0 2).f0) - ((rd_T26 l0 0).f0))) (wrap64 (((rd_T26 l0 2).f1) - ((rd_T26 l0 0).f1))))) else (spec_wiAll.j3 kj19 l0 a1 (wrap64 ((wrap64 ((wrap64 (((rd_T26 l0 1).f0) - ((rd_T26 l0 0).f0))) * (wrap64 (((rd_T26 l0 2).f1) - ((rd_T26 l0 0).f1))))) - (wrap64 ((wrap64 (((rd_T26 l0 1).f1) - ((rd_T26 l0 0).f1))) * (wrap64 (((rd_T26 l0 2).f0) - ((rd_T26 l0 0).f0))))))) x8_2 x9_1 x10_2 (wrap64 (Int.tdiv (wrap64 ((wrap64 (x9_1 * (wrap64 (((rd_T26 l0 2).f1) - ((rd_T26 l0 0).f1))))) - (wrap64 (x10_2 * (wrap64 (((rd_T26 l0 1).f1) - ((rd_T26 l0 0).f1))))))) (wrap64 ((wrap64 ((wrap64 (((rd_T26 l0 1).f0) - ((rd_T26 l0 0).f0))) * (wrap64 (((rd_T26 l0 2).f1) - ((rd_T26 l0 0).f1))))) - (wrap64 ((wrap64 (((rd_T26 l0 1).f1) - ((rd_T26 l0 0).f1))) * (wrap64 (((rd_T26 l0 2).f0) - ((rd_T26 l0 0).f0))))))))) (wrap64 (Int.tdiv (wrap64 ((wrap64 (x10_2 * (wrap64 (((rd_T26 l0 1).f0) - ((rd_T26 l0 0).f0))))) - (wrap64 (x9_1 * (wrap64 (((rd_T26 l0 2).f0) - ((rd_T26 l0 0).f0))))))) (wrap64 ((wrap64 ((wrap64 (((rd_T26 l0 1).f0) - ((rd_T26 l0 0).f0))) * (wrap64 (((rd_T26 l0 2).f1) - ((rd_T26 l0 0).f1))))) - (wrap64 ((wrap64 (((rd_T26 l0 1).f1) - ((rd_T26 l0 0).f1))) * (wrap64 (((rd_T26 l0 2).f0) - ((rd_T26 l0 0).f0))))))))) true (wrap64 (((rd_T26 l0 1).f0) - ((rd_T26 l0 0).f0))) (wrap64 (((rd_T26 l0 1).f1) - ((rd_T26 l0 0).f1))) (wrap64 (((rd_T26 l0 2).f0) - ((rd_T26 l0 0).f0))) (wrap64 (((rd_T26 l0 2).f1) - ((rd_T26 l0 0).f1))))))) else ((spec_pgCommon.f kj19 (wrap64 (Int.tdiv (wrap64 ((wrap64 (x9_1 * (wrap64 (((rd_T26 l0 2).f1) - ((rd_T26 l0 0).f1))))) - (wrap64 (x10_2 * (wrap64 (((rd_T26 l0 1).f1) - ((rd_T26 l0 0).f1))))))) (wrap64 ((wrap64 ((wrap64 (((rd_T26 l0 1).f0) - ((rd_T26 l0 0).f0))) * (wrap64 (((rd_T26 l0 2).f1) - ((rd_T26 l0 0).f1))))) - (wrap64 ((wrap64 (((rd_T26 l0 1).f1) - ((rd_T26 l0 0).f1))) * (wrap64 (((rd_T26 l0 2).f0) - ((rd_T26 l0 0).f0))))))))) (wrap64 (Int.tdiv (wrap64 ((wrap64 (x10_2 * (wrap64 (((rd_T26 l0 1).f0) - ((rd_T26 l0 0).f0))))) - (wrap64 (x9_1 * (wrap64 (((rd_T26 l0 2).f0) - ((rd_T26 l0 0).f0))))))) (wrap64 ((wrap64 ((wrap64 (((rd_T26 l0 1).f0) - ((rd_T26 l0 0).f0))) * (wrap64 (((rd_T26 l0 2).f1) - ((rd_T26 l0 0).f1))))) - (wrap64 ((wrap64 (((rd_T26 l0 1).f1) - ((rd_T26 l0 0).f1))) * (wrap64 (((rd_T26 l0 2).f0) - ((rd_T26 l0 0).f0)))))))))).bind fun t2160 => (if t2160 = 1 then ((spec_wiWidth.f kj19 l0 (wrap64 (Int.tdiv (wrap64 ((wrap64 (x9_1 * (wrap64 (((rd_T26 l0 2).f1) - ((rd_T26 l0 0).f1))))) - (wrap64 (x10_2 * (wrap64 (((rd_T26 l0 1).f1) - ((rd_T26 l0 0).f1))))))) (wrap64 ((wrap64 ((wrap64 (((rd_T26 l0 1).f0) - ((rd_T26 l0 0).f0))) * (wrap64 (((rd_T26 l0 2).f1) - ((rd_T26 l0 0).f1))))) - (wrap64 ((wrap64 (((rd_T26 l0 1).f1) - ((rd_T26 l0 0).f1))) * (wrap64 (((rd_T26 l0 2).f0) - ((rd_T26 l0 0).f0))))))))) (wrap64 (Int.tdiv (wrap64 ((wrap64 (x10_2 * (wrap64 (((rd_T26 l0 1).f0) - ((rd_T26 l0 0).f0))))) - (wrap64 (x9_1 * (wrap64 (((rd_T26 l0 2).f0) - ((rd_T26 l0 0).f0))))))) (wrap64 ((wrap64 ((wrap64 (((rd_T26 l0 1).f0) - ((rd_T26 l0 0).f0))) * (wrap64 (((rd_T26 l0 2).f1) - ((rd_T26 l0 0).f1))))) - (wrap64 ((wrap64 (((rd_T26 l0 1).f1) - ((rd_T26 l0 0).f1))) * (wrap64 (((rd_T26 l0 2).f0) - ((rd_T26 l0 0).f0)))))))))).bind fun t2161 => (spec_wiAll.j3 kj19 l0 a1 (wrap64 ((wrap64 ((wrap64 (((rd_T26 l0 1).f0) - ((rd_T26 l0 0).f0))) * (wrap64 (((rd_T26 l0 2).f1) - ((rd_T26 l0 0).f1))))) - (wrap64 ((wrap64 (((rd_T26 l0 1).f1) - ((rd_T26 l0 0).f1))) * (wrap64 (((rd_T26 l0 2).f0) - ((rd_T26 l0 0).f0))))))) x8_2 x9_1 x10_2 (wrap64 (Int.tdiv (wrap64 ((wrap64 (x9_1 * (wrap64 (((rd_T26 l0 2).f1) - ((rd_T26 l0 0).f1))))) - (wrap64 (x10_2 * (wrap64 (((rd_T26 l0 1).f1) - ((rd_T26 l0 0).f1))))))) (wrap64 ((wrap64 ((wrap64 (((rd_T26 l0 1).f0) - ((rd_T26 l0 0).f0))) * (wrap64 (((rd_T26 l0 2).f1) - ((rd_T26 l0 0).f1))))) - (wrap64 ((wrap64 (((rd_T26 l0 1).f1) - ((rd_T26 l0 0).f1))) * (wrap64 (((rd_T26 l0 2).f0) - ((rd_T26 l0 0).f0))))))))) (wrap64 (Int.tdiv (wrap64 ((wrap64 (x10_2 * (wrap64 (((rd_T26 l0 1).f0) - ((rd_T26 l0 0).f0))))) - (wrap64 (x9_1 * (wrap64 (((rd_T26 l0 2).f0) - ((rd_T26 l0 0).f0))))))) (wrap64 ((wrap64 ((wrap64 (((rd_T26 l0 1).f0) - ((rd_T26 l0 0).f0))) * (wrap64 (((rd_T26 l0 2).f1) - ((rd_T26 l0 0).f1))))) - (wrap64 ((wrap64 (((rd_T26 l0 1).f1) - ((rd_T26 l0 0).f1))) * (wrap64 (((rd_T26 l0 2).f0) - ((rd_T26 l0 0).f0))))))))) (decide (t2161 > a1)) (wrap64 (((rd_T26 l0 1).f0) - ((rd_T26 l0 0).f0))) (wrap64 (((rd_T26 l0 1).f1) - ((rd_T26 l0 0).f1))) (wrap64 (((rd_T26 l0 2).f0) - ((rd_T26 l0 0).f0))) (wrap64 (((rd_T26 l0 2).f1) - ((rd_T26 l0 0).f1))))) else (spec_wiAll.j3 kj19 l0 a1 (wrap64 ((wrap64 ((wrap64 (((rd_T26 l0 1).f0) - ((rd_T26 l0 0).f0))) * (wrap64 (((rd_T26 l0 2).f1) - ((rd_T26 l0 0).f1))))) - (wrap64 ((wrap64 (((rd_T26 l0 1).f1) - ((rd_T26 l0 0).f1))) * (wrap64 (((rd_T26 l0 2).f0) - ((rd_T26 l0 0).f0))))))) x8_2 x9_1 x10_2 (wrap64 (Int.tdiv (wrap64 ((wrap64 (x9_1 * (wrap64 (((rd_T26 l0 2).f1) - ((rd_T26 l0 0).f1))))) - (wrap64 (x10_2 * (wrap64 (((rd_T26 l0 1).f1) - ((rd_T26 l0 0).f1))))))) (wrap64 ((wrap64 ((wrap64 (((rd_T26 l0 1).f0) - ((rd_T26 l0 0).f0))) * (wrap64 (((rd_T26 l0 2).f1) - ((rd_T26 l0 0).f1))))) - (wrap64 ((wrap64 (((rd_T26 l0 1).f1) - ((rd_T26 l0 0).f1))) * (wrap64 (((rd_T26 l0 2).f0) - ((rd_T26 l0 0).f0))))))))) (wrap64 (Int.tdiv (wrap64 ((wrap64 (x10_2 * (wrap64 (((rd_T26 l0 1).f0) - ((rd_T26 l0 0).f0))))) - (wrap64 (x9_1 * (wrap64 (((rd_T26 l0 2).f0) - ((rd_T26 l0 0).f0))))))) (wrap64 ((wrap64 ((wrap64 (((rd_T26 l0 1).f0) - ((rd_T26 l0 0).f0))) * (wrap64 (((rd_T26 l0 2).f1) - ((rd_T26 l0 0).f1))))) - (wrap64 ((wrap64 (((rd_T26 l0 1).f1) - ((rd_T26 l0 0).f1))) * (wrap64 (((rd_T26 l0 2).f0) - ((rd_T26 l0 0).f0))))))))) true (wrap64 (((rd_T26 l0 1).f0) - ((rd_T26 l0 0).f0))) (wrap64 (((rd_T26 l0 1).f1) - ((rd_T26 l0 0).f1))) (wrap64 (((rd_T26 l0 2).f0) - ((rd_T26 l0 0).f0))) (wrap64 (((rd_T26 l0 2).f1) - ((rd_T26 l0 0).f1))))))))) = some r := by rw [if_neg (show ¬ (false = true) by decide)] at H; exact H
             clear H
             have H := H1
             clear H1
             by_cases c25 : (wrap64 ((wrap64 ((wrap64 (((rd_T26 l0 1).f0) - ((rd_T26 l0 0).f0))) * (wrap64 (((rd_T26 l0 2).f1) - ((rd_T26 l0 0).f1))))) - (wrap64 ((wrap64 (((rd_T26 l0 1).f1) - ((rd_T26 l0 0).f1))) * (wrap64 (((rd_T26 l0 2).f0) - ((rd_T26 l0 0).f0))))))) = 0
             ·rw [if_pos c25] at H
              exact absurd H (by simp)
             ·rw [if_neg c25] at H
              have c25b0 : ((wrap64 ((wrap64 ((wrap64 (((rd_T26 l0 1).f0) - ((rd_T26 l0 0).f0))) * (wrap64 (((rd_T26 l0 2).f1) - ((rd_T26 l0 0).f1))))) - (wrap64 ((wrap64 (((rd_T26 l0 1).f1) - ((rd_T26 l0 0).f1))) * (wrap64 (((rd_T26 l0 2).f0) - ((rd_T26 l0 0).f0))))))) == 0) = false := beq_eq_false_iff_ne.mpr c25
              have c25b1 : ((wrap64 ((wrap64 ((wrap64 (((rd_T26 l0 1).f0) - ((rd_T26 l0 0).f0))) * (wrap64 (((rd_T26 l0 2).f1) - ((rd_T26 l0 0).f1))))) - (wrap64 ((wrap64 (((rd_T26 l0 1).f1) - ((rd_T26 l0 0).f1))) * (wrap64 (((rd_T26 l0 2).f0) - ((rd_T26 l0 0).f0))))))) != 0) = true := bne_iff_ne.mpr c25
              have HC26 := Aside0.mk H
              clear H
              try go_wp2
              have n0_ := Aside0.mk (Kd.N_drew HO_8.out)
              have n1_ := Aside0.mk (blk_drew BK2152.out)
              have n2_ := Aside0.mk (blk_drew BK2157.out)
              have n3_ := Aside0.mk (below_drew1 HB.out)
              clear HO_8
              clear BK2152
              clear BK2157
              clear HB
              have HO_8 := n0_
              have BK2152 := n1_
              have BK2157 := n2_
              have HB := n3_
              clear n0_ n1_ n2_ n3_
              refine start_ (n := 8) (S := fun w' => True) (ds := []) (zl 8 0) (by kernel_rfl) rfl rfl trivial (fun hHeld => ?_); refine with_tabW spec_wiAll.tab13 spec_wiAll.bits13 (fun HT_ HW_ => ?_)
              generalize wc.drew = w27 at HO_8 BK2152 BK2157 HB hHeld ⊢
              refine zp 0 108 8 1 HT_ ?_
              refine zp 1 109 8 3 HT_ ?_
              refine zp 2 110 8 7 HT_ ?_
              refine zp 3 111 8 15 HT_ ?_
              refine zp 4 112 8 31 HT_ ?_
              refine zp 5 113 8 63 HT_ ?_
              refine zp 6 13 8 127 HT_ ?_
              refine zp 7 14 8 255 HT_ ?_
              refine done_ (done_of HT_.out (by kernel_rfl)) ?_
              go_upto_region 14 with (fail)
              go_cut [137] (fun v137 wc => ∃ (kq : Nat) (x137_25 : Bool), v137 = .bool x137_25 ∧ Aside0 (spec_wiAll.j3 kq l0 a1 (wrap64 ((wrap64 ((wrap64 (((rd_T26 l0 1).f0) - ((rd_T26 l0 0).f0))) * (wrap64 (((rd_T26 l0 2).f1) - ((rd_T26 l0 0).f1))))) - (wrap64 ((wrap64 (((rd_T26 l0 1).f1) - ((rd_T26 l0 0).f1))) * (wrap64 (((rd_T26 l0 2).f0) - ((rd_T26 l0 0).f0))))))) x8_2 x9_1 x10_2 (wrap64 (Int.tdiv (wrap64 ((wrap64 (x9_1 * (wrap64 (((rd_T26 l0 2).f1) - ((rd_T26 l0 0).f1))))) - (wrap64 (x10_2 * (wrap64 (((rd_T26 l0 1).f1) - ((rd_T26 l0 0).f1))))))) (wrap64 ((wrap64 ((wrap64 (((rd_T26 l0 1).f0) - ((rd_T26 l0 0).f0))) * (wrap64 (((rd_T26 l0 2).f1) - ((rd_T26 l0 0).f1))))) - (wrap64 ((wrap64 (((rd_T26 l0 1).f1) - ((rd_T26 l0 0).f1))) * (wrap64 (((rd_T26 l0 2).f0) - ((rd_T26 l0 0).f0))))))))) (wrap64 (Int.tdiv (wrap64 ((wrap64 (x10_2 * (wrap64 (((rd_T26 l0 1).f0) - ((rd_T26 l0 0).f0))))) - (wrap64 (x9_1 * (wrap64 (((rd_T26 l0 2).f0) - ((rd_T26 l0 0).f0))))))) (wrap64 ((wrap64 ((wrap64 (((rd_T26 l0 1).f0) - ((rd_T26 l0 0).f0))) * (wrap64 (((rd_T26 l0 2).f1) - ((rd_T26 l0 0).f1))))) - (wrap64 ((wrap64 (((rd_T26 l0 1).f1) - ((rd_T26 l0 0).f1))) * (wrap64 (((rd_T26 l0 2).f0) - ((rd_T26 l0 0).f0))))))))) x137_25 (wrap64 (((rd_T26 l0 1).f0) - ((rd_T26 l0 0).f0))) (wrap64 (((rd_T26 l0 1).f1) - ((rd_T26 l0 0).f1))) (wrap64 (((rd_T26 l0 2).f0) - ((rd_T26 l0 0).f0))) (wrap64 (((rd_T26 l0 2).f1) - ((rd_T26 l0 0).f1))) = some r) ∧ Aside0 (kq ≤ kj19) ∧ Aside0 (Kd.N (Kd.slice 3 (Kd.int .i64)) 29 wc w.heap.size (fun k_ => (w.heap.size ≤ k_) ∧ k_ ≠ gb2152 ∧ k_ ≠ gb2157) u8 x8_2) ∧ Aside0 (wc.heap[gb2152]? = some (.cells #[.int .i64 (wrap64 (((rd_T26 l0 1).f0) - ((rd_T26 l0 0).f0))), .int .i64 (wrap64 (((rd_T26 l0 1).f1) - ((rd_T26 l0 0).f1)))] 26 (0, 0))) ∧ Aside0 (wc.heap[gb2157]? = some (.cells #[.int .i64 (wrap64 (((rd_T26 l0 2).f0) - ((rd_T26 l0 0).f0))), .int .i64 (wrap64 (((rd_T26 l0 2).f1) - ((rd_T26 l0 0).f1)))] 26 (0, 0))) ∧ Aside0 (Below w.heap.size w wc))
              case first =>
               have H := HC26.out
               clear HC26
               by_cases c28 : (wrap64 (Int.tdiv (wrap64 ((wrap64 (x9_1 * (wrap64 (((rd_T26 l0 2).f1) - ((rd_T26 l0 0).f1))))) - (wrap64 (x10_2 * (wrap64 (((rd_T26 l0 1).f1) - ((rd_T26 l0 0).f1))))))) (wrap64 ((wrap64 ((wrap64 (((rd_T26 l0 1).f0) - ((rd_T26 l0 0).f0))) * (wrap64 (((rd_T26 l0 2).f1) - ((rd_T26 l0 0).f1))))) - (wrap64 ((wrap64 (((rd_T26 l0 1).f1) - ((rd_T26 l0 0).f1))) * (wrap64 (((rd_T26 l0 2).f0) - ((rd_T26 l0 0).f0))))))))) < 0
               ·rw [if_pos c28] at H
                have c28b0 : decide ((wrap64 (Int.tdiv (wrap64 ((wrap64 (x9_1 * (wrap64 (((rd_T26 l0 2).f1) - ((rd_T26 l0 0).f1))))) - (wrap64 (x10_2 * (wrap64 (((rd_T26 l0 1).f1) - ((rd_T26 l0 0).f1))))))) (wrap64 ((wrap64 ((wrap64 (((rd_T26 l0 1).f0) - ((rd_T26 l0 0).f0))) * (wrap64 (((rd_T26 l0 2).f1) - ((rd_T26 l0 0).f1))))) - (wrap64 ((wrap64 (((rd_T26 l0 1).f1) - ((rd_T26 l0 0).f1))) * (wrap64 (((rd_T26 l0 2).f0) - ((rd_T26 l0 0).f0))))))))) < 0) = true := decide_eq_true c28
                clear c28
                (first | rw [c28b0] | (simp only [i64_w, i32_w]; rw [c28b0]) | skip)
                have H' := Aside0.mk H
                clear H
                go_wp2
                go_meet
                case rel => exact ⟨_, (true), (by first | rfl | (simp; done) | (simp [*]; done)), H', ⟨by have := HK1.out; have := HK2.out; have := HJ19.out; first | omega | exact Nat.le_refl _⟩, ⟨by (with_reducible repeat (first | apply Kd.N_alloc | apply Kd.N_drewN | apply Kd.N_drew)); exact HO_8.out⟩, ⟨zk⟩, ⟨zk⟩, ⟨zb⟩⟩
               ·rw [if_neg c28] at H
                have c28b0 : decide ((wrap64 (Int.tdiv (wrap64 ((wrap64 (x9_1 * (wrap64 (((rd_T26 l0 2).f1) - ((rd_T26 l0 0).f1))))) - (wrap64 (x10_2 * (wrap64 (((rd_T26 l0 1).f1) - ((rd_T26 l0 0).f1))))))) (wrap64 ((wrap64 ((wrap64 (((rd_T26 l0 1).f0) - ((rd_T26 l0 0).f0))) * (wrap64 (((rd_T26 l0 2).f1) - ((rd_T26 l0 0).f1))))) - (wrap64 ((wrap64 (((rd_T26 l0 1).f1) - ((rd_T26 l0 0).f1))) * (wrap64 (((rd_T26 l0 2).f0) - ((rd_T26 l0 0).f0))))))))) < 0) = false := decide_eq_false c28
                clear c28
                (first | rw [c28b0] | (simp only [i64_w, i32_w]; rw [c28b0]) | skip)
                by_cases c29 : (wrap64 (Int.tdiv (wrap64 ((wrap64 (x9_1 * (wrap64 (((rd_T26 l0 2).f1) - ((rd_T26 l0 0).f1))))) - (wrap64 (x10_2 * (wrap64 (((rd_T26 l0 1).f1) - ((rd_T26 l0 0).f1))))))) (wrap64 ((wrap64 ((wrap64 (((rd_T26 l0 1).f0) - ((rd_T26 l0 0).f0))) * (wrap64 (((rd_T26 l0 2).f1) - ((rd_T26 l0 0).f1))))) - (wrap64 ((wrap64 (((rd_T26 l0 1).f1) - ((rd_T26 l0 0).f1))) * (wrap64 (((rd_T26 l0 2).f0) - ((rd_T26 l0 0).f0))))))))) = 0
                ·rw [if_pos c29] at H
                 have c29b0 : ((wrap64 (Int.tdiv (wrap64 ((wrap64 (x9_1 * (wrap64 (((rd_T26 l0 2).f1) - ((rd_T26 l0 0).f1))))) - (wrap64 (x10_2 * (wrap64 (((rd_T26 l0 1).f1) - ((rd_T26 l0 0).f1))))))) (wrap64 ((wrap64 ((wrap64 (((rd_T26 l0 1).f0) - ((rd_T26 l0 0).f0))) * (wrap64 (((rd_T26 l0 2).f1) - ((rd_T26 l0 0).f1))))) - (wrap64 ((wrap64 (((rd_T26 l0 1).f1) - ((rd_T26 l0 0).f1))) * (wrap64 (((rd_T26 l0 2).f0) - ((rd_T26 l0 0).f0))))))))) == 0) = true := beq_iff_eq.mpr c29
                 have c29b1 : ((wrap64 (Int.tdiv (wrap64 ((wrap64 (x9_1 * (wrap64 (((rd_T26 l0 2).f1) - ((rd_T26 l0 0).f1))))) - (wrap64 (x10_2 * (wrap64 (((rd_T26 l0 1).f1) - ((rd_T26 l0 0).f1))))))) (wrap64 ((wrap64 ((wrap64 (((rd_T26 l0 1).f0) - ((rd_T26 l0 0).f0))) * (wrap64 (((rd_T26 l0 2).f1) - ((rd_T26 l0 0).f1))))) - (wrap64 ((wrap64 (((rd_T26 l0 1).f1) - ((rd_T26 l0 0).f1))) * (wrap64 (((rd_T26 l0 2).f0) - ((rd_T26 l0 0).f0))))))))) != 0) = false := bne_eq_false_iff_eq.mpr c29
                 clear c29
                 by_cases c30 : (wrap64 (Int.tdiv (wrap64 ((wrap64 (x10_2 * (wrap64 (((rd_T26 l0 1).f0) - ((rd_T26 l0 0).f0))))) - (wrap64 (x9_1 * (wrap64 (((rd_T26 l0 2).f0) - ((rd_T26 l0 0).f0))))))) (wrap64 ((wrap64 ((wrap64 (((rd_T26 l0 1).f0) - ((rd_T26 l0 0).f0))) * (wrap64 (((rd_T26 l0 2).f1) - ((rd_T26 l0 0).f1))))) - (wrap64 ((wrap64 (((rd_T26 l0 1).f1) - ((rd_T26 l0 0).f1))) * (wrap64 (((rd_T26 l0 2).f0) - ((rd_T26 l0 0).f0))))))))) < 1
                 ·rw [if_pos c30] at H
                  have c30b0 : decide ((wrap64 (Int.tdiv (wrap64 ((wrap64 (x10_2 * (wrap64 (((rd_T26 l0 1).f0) - ((rd_T26 l0 0).f0))))) - (wrap64 (x9_1 * (wrap64 (((rd_T26 l0 2).f0) - ((rd_T26 l0 0).f0))))))) (wrap64 ((wrap64 ((wrap64 (((rd_T26 l0 1).f0) - ((rd_T26 l0 0).f0))) * (wrap64 (((rd_T26 l0 2).f1) - ((rd_T26 l0 0).f1))))) - (wrap64 ((wrap64 (((rd_T26 l0 1).f1) - ((rd_T26 l0 0).f1))) * (wrap64 (((rd_T26 l0 2).f0) - ((rd_T26 l0 0).f0))))))))) < 1) = true := decide_eq_true c30
                  clear c30
                  have H' := Aside0.mk H
                  clear H
                  go_wp2
                  go_meet
                  case rel => exact ⟨_, (true), (by first | rfl | (simp; done) | (simp [*]; done)), H', ⟨by have := HK1.out; have := HK2.out; have := HJ19.out; first | omega | exact Nat.le_refl _⟩, ⟨by (with_reducible repeat (first | apply Kd.N_alloc | apply Kd.N_drewN | apply Kd.N_drew)); exact HO_8.out⟩, ⟨zk⟩, ⟨zk⟩, ⟨zb⟩⟩
                 ·rw [if_neg c30] at H
                  have c30b0 : decide ((wrap64 (Int.tdiv (wrap64 ((wrap64 (x10_2 * (wrap64 (((rd_T26 l0 1).f0) - ((rd_T26 l0 0).f0))))) - (wrap64 (x9_1 * (wrap64 (((rd_T26 l0 2).f0) - ((rd_T26 l0 0).f0))))))) (wrap64 ((wrap64 ((wrap64 (((rd_T26 l0 1).f0) - ((rd_T26 l0 0).f0))) * (wrap64 (((rd_T26 l0 2).f1) - ((rd_T26 l0 0).f1))))) - (wrap64 ((wrap64 (((rd_T26 l0 1).f1) - ((rd_T26 l0 0).f1))) * (wrap64 (((rd_T26 l0 2).f0) - ((rd_T26 l0 0).f0))))))))) < 1) = false := decide_eq_false c30
                  clear c30
                  replace H := Option.bind_eq_some_iff.mp H
                  obtain ⟨t2158, A310, H⟩ := H
                  replace H : (if t2158 = 1 then ((spec_wiWidth.f kj19 l0 (wrap64 (Int.tdiv (wrap64 ((wrap64 (x9_1 * (wrap64 (((rd_T26 l0 2).f1) - ((rd_T26 l0 0).f1))))) - (wrap64 (x10_2 * (wrap64 (((rd_T26 l0 1).f1) - ((rd_T26 l0 0).f1))))))) (wrap64 ((wrap64 ((wrap64 (((rd_T26 l0 1).f0) - ((rd_T26 l0 0).f0))) * (wrap64 (((rd_T26 l0 2).f1) - ((rd_T26 l0 0).f1))))) - (wrap64 ((wrap64 (((rd_T26 l0 1).f1) - ((rd_T26 l0 0).f1))) * (wrap64 (((rd_T26 l0 2).f0) - ((rd_T26 l0 0).f0))))))))) (wrap64 (Int.tdiv (wrap64 ((wrap64 (x10_2 * (wrap64 (((rd_T26 l0 1).f0) - ((rd_T26 l0 0).f0))))) - (wrap64 (x9_1 * (wrap64 (((rd_T26 l0 2).f0) - ((rd_T26 l0 0).f0))))))) (wrap64 ((wrap64 ((wrap64 (((rd_T26 l0 1).f0) - ((rd_T26 l0 0).f0))) * (wrap64 (((rd_T26 l0 2).f1) - ((rd_T26 l0 0).f1))))) - (wrap64 ((wrap64 (((rd_T26 l0 1).f1) - ((rd_T26 l0 0).f1))) * (wrap64 (((rd_T26 l0 2).f0) - ((rd_T26 l0 0).f0)))))))))).bind fun t2159 => (spec_wiAll.j3 kj19 l0 a1 (wrap64 ((wrap64 ((wrap64 (((rd_T26 l0 1).f0) - ((rd_T26 l0 0).f0))) * (wrap64 (((rd_T26 l0 2).f1) - ((rd_T26 l0 0).f1))))) - (wrap64 ((wrap64 (((rd_T26 l0 1).f1) - ((rd_T26 l0 0).f1))) * (wrap64 (((rd_T26 l0 2).f0) - ((rd_T26 l0 0).f0))))))) x8_2 x9_1 x10_2 (wrap64 (Int.tdiv (wrap64 ((wrap64 (x9_1 * (wrap64 (((rd_T26 l0 2).f1) - ((rd_T26 l0 0).f1))))) - (wrap64 (x10_2 * (wrap64 (((rd_T26 l0 1).f1) - ((rd_T26 l0 0).f1))))))) (wrap64 ((wrap64 ((wrap64 (((rd_T26 l0 1).f0) - ((rd_T26 l0 0).f0))) * (wrap64 (((rd_T26 l0 2).f1) - ((rd_T26 l0 0).f1))))) - (wrap64 ((wrap64 (((rd_T26 l0 1).f1) - ((rd_T26 l0 0).f1))) * (wrap64 (((rd_T26 l0 2).f0) - ((rd_T26 l0 0).f0))))))))) (wrap64 (Int.tdiv (wrap64 ((wrap64 (x10_2 * (wrap64 (((rd_T26 l0 1).f0) - ((rd_T26 l0 0).f0))))) - (wrap64 (x9_1 * (wrap64 (((rd_T26 l0 2).f0) - ((rd_T26 l0 0).f0))))))) (wrap64 ((wrap64 ((wrap64 (((rd_T26 l0 1).f0) - ((rd_T26 l0 0).f0))) * (wrap64 (((rd_T26 l0 2).f1) - ((rd_T26 l0 0).f1))))) - (wrap64 ((wrap64 (((rd_T26 l0 1).f1) - ((rd_T26 l0 0).f1))) * (wrap64 (((rd_T26 l0 2).f0) - ((rd_T26 l0 0).f0))))))))) (decide (t2159 > a1)) (wrap64 (((rd_T26 l0 1).f0) - ((rd_T26 l0 0).f0))) (wrap64 (((rd_T26 l0 1).f1) - ((rd_T26 l0 0).f1))) (wrap64 (((rd_T26 l0 2).f0) - ((rd_T26 l0 0).f0))) (wrap64 (((rd_T26 l0 2).f1) - ((rd_T26 l0 0).f1))))) else (spec_wiAll.j3 kj19 l0 a1 (wrap64 ((wrap64 ((wrap64 (((rd_T26 l0 1).f0) - ((rd_T26 l0 0).f0))) * (wrap64 (((rd_T26 l0 2).f1) - ((rd_T26 l0 0).f1))))) - (wrap64 ((wrap64 (((rd_T26 l0 1).f1) - ((rd_T26 l0 0).f1))) * (wrap64 (((rd_T26 l0 2).f0) - ((rd_T26 l0 0).f0))))))) x8_2 x9_1 x10_2 (wrap64 (Int.tdiv (wrap64 ((wrap64 (x9_1 * (wrap64 (((rd_T26 l0 2).f1) - ((rd_T26 l0 0).f1))))) - (wrap64 (x10_2 * (wrap64 (((rd_T26 l0 1).f1) - ((rd_T26 l0 0).f1))))))) (wrap64 ((wrap64 ((wrap64 (((rd_T26 l0 1).f0) - ((rd_T26 l0 0).f0))) * (wrap64 (((rd_T26 l0 2).f1) - ((rd_T26 l0 0).f1))))) - (wrap64 ((wrap64 (((rd_T26 l0 1).f1) - ((rd_T26 l0 0).f1))) * (wrap64 (((rd_T26 l0 2).f0) - ((rd_T26 l0 0).f0))))))))) (wrap64 (Int.tdiv (wrap64 ((wrap64 (x10_2 * (wrap64 (((rd_T26 l0 1).f0) - ((rd_T26 l0 0).f0))))) - (wrap64 (x9_1 * (wrap64 (((rd_T26 l0 2).f0) - ((rd_T26 l0 0).f0))))))) (wrap64 ((wrap64 ((wrap64 (((rd_T26 l0 1).f0) - ((rd_T26 l0 0).f0))) * (wrap64 (((rd_T26 l0 2).f1) - ((rd_T26 l0 0).f1))))) - (wrap64 ((wrap64 (((rd_T26 l0 1).f1) - ((rd_T26 l0 0).f1))) * (wrap64 (((rd_T26 l0 2).f0) - ((rd_T26 l0 0).f0))))))))) true (wrap64 (((rd_T26 l0 1).f0) - ((rd_T26 l0 0).f0))) (wrap64 (((rd_T26 l0 1).f1) - ((rd_T26 l0 0).f1))) (wrap64 (((rd_T26 l0 2).f0) - ((rd_T26 l0 0).f0))) (wrap64 (((rd_T26 l0 2).f1) - ((rd_T26 l0 0).f1))))) = some r := H
                  have A31 := Aside0.mk A310
                  clear A310
                  by_cases c32 : t2158 = 1
                  ·rw [if_pos c32] at H
                   have c32b0 : (t2158 == 1) = true := beq_iff_eq.mpr c32
                   have c32b1 : (t2158 != 1) = false := bne_eq_false_iff_eq.mpr c32
                   clear c32
                   replace H := Option.bind_eq_some_iff.mp H
                   obtain ⟨t2159, A330, H⟩ := H
                   replace H : (spec_wiAll.j3 kj19 l0 a1 (wrap64 ((wrap64 ((wrap64 (((rd_T26 l0 1).f0) - ((rd_T26 l0 0).f0))) * (wrap64 (((rd_T26 l0 2).f1) - ((rd_T26 l0 0).f1))))) - (wrap64 ((wrap64 (((rd_T26 l0 1).f1) - ((rd_T26 l0 0).f1))) * (wrap64 (((rd_T26 l0 2).f0) - ((rd_T26 l0 0).f0))))))) x8_2 x9_1 x10_2 (wrap64 (Int.tdiv (wrap64 ((wrap64 (x9_1 * (wrap64 (((rd_T26 l0 2).f1) - ((rd_T26 l0 0).f1))))) - (wrap64 (x10_2 * (wrap64 (((rd_T26 l0 1).f1) - ((rd_T26 l0 0).f1))))))) (wrap64 ((wrap64 ((wrap64 (((rd_T26 l0 1).f0) - ((rd_T26 l0 0).f0))) * (wrap64 (((rd_T26 l0 2).f1) - ((rd_T26 l0 0).f1))))) - (wrap64 ((wrap64 (((rd_T26 l0 1).f1) - ((rd_T26 l0 0).f1))) * (wrap64 (((rd_T26 l0 2).f0) - ((rd_T26 l0 0).f0))))))))) (wrap64 (Int.tdiv (wrap64 ((wrap64 (x10_2 * (wrap64 (((rd_T26 l0 1).f0) - ((rd_T26 l0 0).f0))))) - (wrap64 (x9_1 * (wrap64 (((rd_T26 l0 2).f0) - ((rd_T26 l0 0).f0))))))) (wrap64 ((wrap64 ((wrap64 (((rd_T26 l0 1).f0) - ((rd_T26 l0 0).f0))) * (wrap64 (((rd_T26 l0 2).f1) - ((rd_T26 l0 0).f1))))) - (wrap64 ((wrap64 (((rd_T26 l0 1).f1) - ((rd_T26 l0 0).f1))) * (wrap64 (((rd_T26 l0 2).f0) - ((rd_T26 l0 0).f0))))))))) (decide (t2159 > a1)) (wrap64 (((rd_T26 l0 1).f0) - ((rd_T26 l0 0).f0))) (wrap64 (((rd_T26 l0 1).f1) - ((rd_T26 l0 0).f1))) (wrap64 (((rd_T26 l0 2).f0) - ((rd_T26 l0 0).f0))) (wrap64 (((rd_T26 l0 2).f1) - ((rd_T26 l0 0).f1)))) = some r := H
                   have A33 := Aside0.mk A330
                   clear A330
                   have H' := Aside0.mk H
                   clear H
                   go_wp2_with (first | (go_at_call 198; (with_reducible refine (spec_pgCommon.calls kj19 (wrap64 (Int.tdiv (wrap64 ((wrap64 (x9_1 * (wrap64 (((rd_T26 l0 2).f1) - ((rd_T26 l0 0).f1))))) - (wrap64 (x10_2 * (wrap64 (((rd_T26 l0 1).f1) - ((rd_T26 l0 0).f1))))))) (wrap64 ((wrap64 ((wrap64 (((rd_T26 l0 1).f0) - ((rd_T26 l0 0).f0))) * (wrap64 (((rd_T26 l0 2).f1) - ((rd_T26 l0 0).f1))))) - (wrap64 ((wrap64 (((rd_T26 l0 1).f1) - ((rd_T26 l0 0).f1))) * (wrap64 (((rd_T26 l0 2).f0) - ((rd_T26 l0 0).f0))))))))) (wrap64 (Int.tdiv (wrap64 ((wrap64 (x10_2 * (wrap64 (((rd_T26 l0 1).f0) - ((rd_T26 l0 0).f0))))) - (wrap64 (x9_1 * (wrap64 (((rd_T26 l0 2).f0) - ((rd_T26 l0 0).f0))))))) (wrap64 ((wrap64 ((wrap64 (((rd_T26 l0 1).f0) - ((rd_T26 l0 0).f0))) * (wrap64 (((rd_T26 l0 2).f1) - ((rd_T26 l0 0).f1))))) - (wrap64 ((wrap64 (((rd_T26 l0 1).f1) - ((rd_T26 l0 0).f1))) * (wrap64 (((rd_T26 l0 2).f0) - ((rd_T26 l0 0).f0))))))))) t2158 _ A31.out).mono ?_); rintro e w' ⟨rfl, ⟨nd, rfl⟩⟩) | (go_at_call 259; (with_reducible refine (spec_wiWidth.calls kj19 _ _ l0 (wrap64 (Int.tdiv (wrap64 ((wrap64 (x9_1 * (wrap64 (((rd_T26 l0 2).f1) - ((rd_T26 l0 0).f1))))) - (wrap64 (x10_2 * (wrap64 (((rd_T26 l0 1).f1) - ((rd_T26 l0 0).f1))))))) (wrap64 ((wrap64 ((wrap64 (((rd_T26 l0 1).f0) - ((rd_T26 l0 0).f0))) * (wrap64 (((rd_T26 l0 2).f1) - ((rd_T26 l0 0).f1))))) - (wrap64 ((wrap64 (((rd_T26 l0 1).f1) - ((rd_T26 l0 0).f1))) * (wrap64 (((rd_T26 l0 2).f0) - ((rd_T26 l0 0).f0))))))))) (wrap64 (Int.tdiv (wrap64 ((wrap64 (x10_2 * (wrap64 (((rd_T26 l0 1).f0) - ((rd_T26 l0 0).f0))))) - (wrap64 (x9_1 * (wrap64 (((rd_T26 l0 2).f0) - ((rd_T26 l0 0).f0))))))) (wrap64 ((wrap64 ((wrap64 (((rd_T26 l0 1).f0) - ((rd_T26 l0 0).f0))) * (wrap64 (((rd_T26 l0 2).f1) - ((rd_T26 l0 0).f1))))) - (wrap64 ((wrap64 (((rd_T26 l0 1).f1) - ((rd_T26 l0 0).f1))) * (wrap64 (((rd_T26 l0 2).f0) - ((rd_T26 l0 0).f0))))))))) t2159 _ ?side1 ?side2 A33.out).mono ?_); (case side1 => repeat (first | exact (Kd.C_below HR0.out zb) | (with_reducible refine Kd.C_alloc ?_ _) | (with_reducible refine Kd.C_drewN ?_ _) | (with_reducible refine Kd.C_drew ?_))); (case side2 => exact HC0.out); rintro e w34 ⟨rfl, hb⟩; have n0_ := Aside0.mk (Kd.N_below (by (with_reducible repeat (first | apply Kd.N_alloc | apply Kd.N_drewN | apply Kd.N_drew)); exact HO_8.out) hb); have n1_ := Aside0.mk (blk_below (g := gb2152) (o := .cells #[.int .i64 (wrap64 (((rd_T26 l0 1).f0) - ((rd_T26 l0 0).f0))), .int .i64 (wrap64 (((rd_T26 l0 1).f1) - ((rd_T26 l0 0).f1)))] 26 (0, 0)) zk hb); have n2_ := Aside0.mk (blk_below (g := gb2157) (o := .cells #[.int .i64 (wrap64 (((rd_T26 l0 2).f0) - ((rd_T26 l0 0).f0))), .int .i64 (wrap64 (((rd_T26 l0 2).f1) - ((rd_T26 l0 0).f1)))] 26 (0, 0)) zk hb); have n3_ := Aside0.mk (below_step zb hb); clear HO_8; clear BK2152; clear BK2157; clear HB; have HO_8 := n0_; have BK2152 := n1_; have BK2157 := n2_; have HB := n3_; clear n0_ n1_ n2_ n3_; (try clear hb); (try clear hb2); (try clear hk); (try clear hi)))
                   go_meet
                   case rel => exact ⟨_, (decide (t2159 > a1)), (by first | rfl | (simp; done) | (simp [*]; done)), H', ⟨by have := HK1.out; have := HK2.out; have := HJ19.out; first | omega | exact Nat.le_refl _⟩, ⟨by (with_reducible repeat (first | apply Kd.N_alloc | apply Kd.N_drewN | apply Kd.N_drew)); exact HO_8.out⟩, ⟨zk⟩, ⟨zk⟩, ⟨zb⟩⟩
                  ·rw [if_neg c32] at H
                   have c32b0 : (t2158 == 1) = false := beq_eq_false_iff_ne.mpr c32
                   have c32b1 : (t2158 != 1) = true := bne_iff_ne.mpr c32
                   have H' := Aside0.mk H
                   clear H
                   go_wp2_with (first | (go_at_call 198; (with_reducible refine (spec_pgCommon.calls kj19 (wrap64 (Int.tdiv (wrap64 ((wrap64 (x9_1 * (wrap64 (((rd_T26 l0 2).f1) - ((rd_T26 l0 0).f1))))) - (wrap64 (x10_2 * (wrap64 (((rd_T26 l0 1).f1) - ((rd_T26 l0 0).f1))))))) (wrap64 ((wrap64 ((wrap64 (((rd_T26 l0 1).f0) - ((rd_T26 l0 0).f0))) * (wrap64 (((rd_T26 l0 2).f1) - ((rd_T26 l0 0).f1))))) - (wrap64 ((wrap64 (((rd_T26 l0 1).f1) - ((rd_T26 l0 0).f1))) * (wrap64 (((rd_T26 l0 2).f0) - ((rd_T26 l0 0).f0))))))))) (wrap64 (Int.tdiv (wrap64 ((wrap64 (x10_2 * (wrap64 (((rd_T26 l0 1).f0) - ((rd_T26 l0 0).f0))))) - (wrap64 (x9_1 * (wrap64 (((rd_T26 l0 2).f0) - ((rd_T26 l0 0).f0))))))) (wrap64 ((wrap64 ((wrap64 (((rd_T26 l0 1).f0) - ((rd_T26 l0 0).f0))) * (wrap64 (((rd_T26 l0 2).f1) - ((rd_T26 l0 0).f1))))) - (wrap64 ((wrap64 (((rd_T26 l0 1).f1) - ((rd_T26 l0 0).f1))) * (wrap64 (((rd_T26 l0 2).f0) - ((rd_T26 l0 0).f0))))))))) t2158 _ A31.out).mono ?_); rintro e w' ⟨rfl, ⟨nd, rfl⟩⟩))
                   go_meet
                   case rel => exact ⟨_, (true), (by first | rfl | (simp; done) | (simp [*]; done)), H', ⟨by have := HK1.out; have := HK2.out; have := HJ19.out; first | omega | exact Nat.le_refl _⟩, ⟨by (with_reducible repeat (first | apply Kd.N_alloc | apply Kd.N_drewN | apply Kd.N_drew)); exact HO_8.out⟩, ⟨zk⟩, ⟨zk⟩, ⟨zb⟩⟩
                ·rw [if_neg c29] at H
                 have c29b0 : ((wrap64 (Int.tdiv (wrap64 ((wrap64 (x9_1 * (wrap64 (((rd_T26 l0 2).f1) - ((rd_T26 l0 0).f1))))) - (wrap64 (x10_2 * (wrap64 (((rd_T26 l0 1).f1) - ((rd_T26 l0 0).f1))))))) (wrap64 ((wrap64 ((wrap64 (((rd_T26 l0 1).f0) - ((rd_T26 l0 0).f0))) * (wrap64 (((rd_T26 l0 2).f1) - ((rd_T26 l0 0).f1))))) - (wrap64 ((wrap64 (((rd_T26 l0 1).f1) - ((rd_T26 l0 0).f1))) * (wrap64 (((rd_T26 l0 2).f0) - ((rd_T26 l0 0).f0))))))))) == 0) = false := beq_eq_false_iff_ne.mpr c29
                 have c29b1 : ((wrap64 (Int.tdiv (wrap64 ((wrap64 (x9_1 * (wrap64 (((rd_T26 l0 2).f1) - ((rd_T26 l0 0).f1))))) - (wrap64 (x10_2 * (wrap64 (((rd_T26 l0 1).f1) - ((rd_T26 l0 0).f1))))))) (wrap64 ((wrap64 ((wrap64 (((rd_T26 l0 1).f0) - ((rd_T26 l0 0).f0))) * (wrap64 (((rd_T26 l0 2).f1) - ((rd_T26 l0 0).f1))))) - (wrap64 ((wrap64 (((rd_T26 l0 1).f1) - ((rd_T26 l0 0).f1))) * (wrap64 (((rd_T26 l0 2).f0) - ((rd_T26 l0 0).f0))))))))) != 0) = true := bne_iff_ne.mpr c29
                 replace H := Option.bind_eq_some_iff.mp H
                 obtain ⟨t2160, A350, H⟩ := H
                 replace H : (if t2160 = 1 then ((spec_wiWidth.f kj19 l0 (wrap64 (Int.tdiv (wrap64 ((wrap64 (x9_1 * (wrap64 (((rd_T26 l0 2).f1) - ((rd_T26 l0 0).f1))))) - (wrap64 (x10_2 * (wrap64 (((rd_T26 l0 1).f1) - ((rd_T26 l0 0).f1))))))) (wrap64 ((wrap64 ((wrap64 (((rd_T26 l0 1).f0) - ((rd_T26 l0 0).f0))) * (wrap64 (((rd_T26 l0 2).f1) - ((rd_T26 l0 0).f1))))) - (wrap64 ((wrap64 (((rd_T26 l0 1).f1) - ((rd_T26 l0 0).f1))) * (wrap64 (((rd_T26 l0 2).f0) - ((rd_T26 l0 0).f0))))))))) (wrap64 (Int.tdiv (wrap64 ((wrap64 (x10_2 * (wrap64 (((rd_T26 l0 1).f0) - ((rd_T26 l0 0).f0))))) - (wrap64 (x9_1 * (wrap64 (((rd_T26 l0 2).f0) - ((rd_T26 l0 0).f0))))))) (wrap64 ((wrap64 ((wrap64 (((rd_T26 l0 1).f0) - ((rd_T26 l0 0).f0))) * (wrap64 (((rd_T26 l0 2).f1) - ((rd_T26 l0 0).f1))))) - (wrap64 ((wrap64 (((rd_T26 l0 1).f1) - ((rd_T26 l0 0).f1))) * (wrap64 (((rd_T26 l0 2).f0) - ((rd_T26 l0 0).f0)))))))))).bind fun t2161 => (spec_wiAll.j3 kj19 l0 a1 (wrap64 ((wrap64 ((wrap64 (((rd_T26 l0 1).f0) - ((rd_T26 l0 0).f0))) * (wrap64 (((rd_T26 l0 2).f1) - ((rd_T26 l0 0).f1))))) - (wrap64 ((wrap64 (((rd_T26 l0 1).f1) - ((rd_T26 l0 0).f1))) * (wrap64 (((rd_T26 l0 2).f0) - ((rd_T26 l0 0).f0))))))) x8_2 x9_1 x10_2 (wrap64 (Int.tdiv (wrap64 ((wrap64 (x9_1 * (wrap64 (((rd_T26 l0 2).f1) - ((rd_T26 l0 0).f1))))) - (wrap64 (x10_2 * (wrap64 (((rd_T26 l0 1).f1) - ((rd_T26 l0 0).f1))))))) (wrap64 ((wrap64 ((wrap64 (((rd_T26 l0 1).f0) - ((rd_T26 l0 0).f0))) * (wrap64 (((rd_T26 l0 2).f1) - ((rd_T26 l0 0).f1))))) - (wrap64 ((wrap64 (((rd_T26 l0 1).f1) - ((rd_T26 l0 0).f1))) * (wrap64 (((rd_T26 l0 2).f0) - ((rd_T26 l0 0).f0))))))))) (wrap64 (Int.tdiv (wrap64 ((wrap64 (x10_2 * (wrap64 (((rd_T26 l0 1).f0) - ((rd_T26 l0 0).f0))))) - (wrap64 (x9_1 * (wrap64 (((rd_T26 l0 2).f0) - ((rd_T26 l0 0).f0))))))) (wrap64 ((wrap64 ((wrap64 (((rd_T26 l0 1).f0) - ((rd_T26 l0 0).f0))) * (wrap64 (((rd_T26 l0 2).f1) - ((rd_T26 l0 0).f1))))) - (wrap64 ((wrap64 (((rd_T26 l0 1).f1) - ((rd_T26 l0 0).f1))) * (wrap64 (((rd_T26 l0 2).f0) - ((rd_T26 l0 0).f0))))))))) (decide (t2161 > a1)) (wrap64 (((rd_T26 l0 1).f0) - ((rd_T26 l0 0).f0))) (wrap64 (((rd_T26 l0 1).f1) - ((rd_T26 l0 0).f1))) (wrap64 (((rd_T26 l0 2).f0) - ((rd_T26 l0 0).f0))) (wrap64 (((rd_T26 l0 2).f1) - ((rd_T26 l0 0).f1))))) else (spec_wiAll.j3 kj19 l0 a1 (wrap64 ((wrap64 ((wrap64 (((rd_T26 l0 1).f0) - ((rd_T26 l0 0).f0))) * (wrap64 (((rd_T26 l0 2).f1) - ((rd_T26 l0 0).f1))))) - (wrap64 ((wrap64 (((rd_T26 l0 1).f1) - ((rd_T26 l0 0).f1))) * (wrap64 (((rd_T26 l0 2).f0) - ((rd_T26 l0 0).f0))))))) x8_2 x9_1 x10_2 (wrap64 (Int.tdiv (wrap64 ((wrap64 (x9_1 * (wrap64 (((rd_T26 l0 2).f1) - ((rd_T26 l0 0).f1))))) - (wrap64 (x10_2 * (wrap64 (((rd_T26 l0 1).f1) - ((rd_T26 l0 0).f1))))))) (wrap64 ((wrap64 ((wrap64 (((rd_T26 l0 1).f0) - ((rd_T26 l0 0).f0))) * (wrap64 (((rd_T26 l0 2).f1) - ((rd_T26 l0 0).f1))))) - (wrap64 ((wrap64 (((rd_T26 l0 1).f1) - ((rd_T26 l0 0).f1))) * (wrap64 (((rd_T26 l0 2).f0) - ((rd_T26 l0 0).f0))))))))) (wrap64 (Int.tdiv (wrap64 ((wrap64 (x10_2 * (wrap64 (((rd_T26 l0 1).f0) - ((rd_T26 l0 0).f0))))) - (wrap64 (x9_1 * (wrap64 (((rd_T26 l0 2).f0) - ((rd_T26 l0 0).f0))))))) (wrap64 ((wrap64 ((wrap64 (((rd_T26 l0 1).f0) - ((rd_T26 l0 0).f0))) * (wrap64 (((rd_T26 l0 2).f1) - ((rd_T26 l0 0).f1))))) - (wrap64 ((wrap64 (((rd_T26 l0 1).f1) - ((rd_T26 l0 0).f1))) * (wrap64 (((rd_T26 l0 2).f0) - ((rd_T26 l0 0).f0))))))))) true (wrap64 (((rd_T26 l0 1).f0) - ((rd_T26 l0 0).f0))) (wrap64 (((rd_T26 l0 1).f1) - ((rd_T26 l0 0).f1))) (wrap64 (((rd_T26 l0 2).f0) - ((rd_T26 l0 0).f0))) (wrap64 (((rd_T26 l0 2).f1) - ((rd_T26 l0 0).f1))))) = some r := H
                 have A35 := Aside0.mk A350
                 clear A350
                 by_cases c36 : t2160 = 1
                 ·rw [if_pos c36] at H
                  have c36b0 : (t2160 == 1) = true := beq_iff_eq.mpr c36
                  have c36b1 : (t2160 != 1) = false := bne_eq_false_iff_eq.mpr c36
                  clear c36
                  replace H := Option.bind_eq_some_iff.mp H
                  obtain ⟨t2161, A370, H⟩ := H
                  replace H : (spec_wiAll.j3 kj19 l0 a1 (wrap64 ((wrap64 ((wrap64 (((rd_T26 l0 1).f0) - ((rd_T26 l0 0).f0))) * (wrap64 (((rd_T26 l0 2).f1) - ((rd_T26 l0 0).f1))))) - (wrap64 ((wrap64 (((rd_T26 l0 1).f1) - ((rd_T26 l0 0).f1))) * (wrap64 (((rd_T26 l0 2).f0) - ((rd_T26 l0 0).f0))))))) x8_2 x9_1 x10_2 (wrap64 (Int.tdiv (wrap64 ((wrap64 (x9_1 * (wrap64 (((rd_T26 l0 2).f1) - ((rd_T26 l0 0).f1))))) - (wrap64 (x10_2 * (wrap64 (((rd_T26 l0 1).f1) - ((rd_T26 l0 0).f1))))))) (wrap64 ((wrap64 ((wrap64 (((rd_T26 l0 1).f0) - ((rd_T26 l0 0).f0))) * (wrap64 (((rd_T26 l0 2).f1) - ((rd_T26 l0 0).f1))))) - (wrap64 ((wrap64 (((rd_T26 l0 1).f1) - ((rd_T26 l0 0).f1))) * (wrap64 (((rd_T26 l0 2).f0) - ((rd_T26 l0 0).f0))))))))) (wrap64 (Int.tdiv (wrap64 ((wrap64 (x10_2 * (wrap64 (((rd_T26 l0 1).f0) - ((rd_T26 l0 0).f0))))) - (wrap64 (x9_1 * (wrap64 (((rd_T26 l0 2).f0) - ((rd_T26 l0 0).f0))))))) (wrap64 ((wrap64 ((wrap64 (((rd_T26 l0 1).f0) - ((rd_T26 l0 0).f0))) * (wrap64 (((rd_T26 l0 2).f1) - ((rd_T26 l0 0).f1))))) - (wrap64 ((wrap64 (((rd_T26 l0 1).f1) - ((rd_T26 l0 0).f1))) * (wrap64 (((rd_T26 l0 2).f0) - ((rd_T26 l0 0).f0))))))))) (decide (t2161 > a1)) (wrap64 (((rd_T26 l0 1).f0) - ((rd_T26 l0 0).f0))) (wrap64 (((rd_T26 l0 1).f1) - ((rd_T26 l0 0).f1))) (wrap64 (((rd_T26 l0 2).f0) - ((rd_T26 l0 0).f0))) (wrap64 (((rd_T26 l0 2).f1) - ((rd_T26 l0 0).f1)))) = some r := H
                  have A37 := Aside0.mk A370
                  clear A370
                  have H' := Aside0.mk H
                  clear H
                  go_wp2_with (first | (go_at_call 198; (with_reducible refine (spec_pgCommon.calls kj19 (wrap64 (Int.tdiv (wrap64 ((wrap64 (x9_1 * (wrap64 (((rd_T26 l0 2).f1) - ((rd_T26 l0 0).f1))))) - (wrap64 (x10_2 * (wrap64 (((rd_T26 l0 1).f1) - ((rd_T26 l0 0).f1))))))) (wrap64 ((wrap64 ((wrap64 (((rd_T26 l0 1).f0) - ((rd_T26 l0 0).f0))) * (wrap64 (((rd_T26 l0 2).f1) - ((rd_T26 l0 0).f1))))) - (wrap64 ((wrap64 (((rd_T26 l0 1).f1) - ((rd_T26 l0 0).f1))) * (wrap64 (((rd_T26 l0 2).f0) - ((rd_T26 l0 0).f0))))))))) (wrap64 (Int.tdiv (wrap64 ((wrap64 (x10_2 * (wrap64 (((rd_T26 l0 1).f0) - ((rd_T26 l0 0).f0))))) - (wrap64 (x9_1 * (wrap64 (((rd_T26 l0 2).f0) - ((rd_T26 l0 0).f0))))))) (wrap64 ((wrap64 ((wrap64 (((rd_T26 l0 1).f0) - ((rd_T26 l0 0).f0))) * (wrap64 (((rd_T26 l0 2).f1) - ((rd_T26 l0 0).f1))))) - (wrap64 ((wrap64 (((rd_T26 l0 1).f1) - ((rd_T26 l0 0).f1))) * (wrap64 (((rd_T26 l0 2).f0) - ((rd_T26 l0 0).f0))))))))) t2160 _ A35.out).mono ?_); rintro e w' ⟨rfl, ⟨nd, rfl⟩⟩) | (go_at_call 259; (with_reducible refine (spec_wiWidth.calls kj19 _ _ l0 (wrap64 (Int.tdiv (wrap64 ((wrap64 (x9_1 * (wrap64 (((rd_T26 l0 2).f1) - ((rd_T26 l0 0).f1))))) - (wrap64 (x10_2 * (wrap64 (((rd_T26 l0 1).f1) - ((rd_T26 l0 0).f1))))))) (wrap64 ((wrap64 ((wrap64 (((rd_T26 l0 1).f0) - ((rd_T26 l0 0).f0))) * (wrap64 (((rd_T26 l0 2).f1) - ((rd_T26 l0 0).f1))))) - (wrap64 ((wrap64 (((rd_T26 l0 1).f1) - ((rd_T26 l0 0).f1))) * (wrap64 (((rd_T26 l0 2).f0) - ((rd_T26 l0 0).f0))))))))) (wrap64 (Int.tdiv (wrap64 ((wrap64 (x10_2 * (wrap64 (((rd_T26 l0 1).f0) - ((rd_T26 l0 0).f0))))) - (wrap64 (x9_1 * (wrap64 (((rd_T26 l0 2).f0) - ((rd_T26 l0 0).f0))))))) (wrap64 ((wrap64 ((wrap64 (((rd_T26 l0 1).f0) - ((rd_T26 l0 0).f0))) * (wrap64 (((rd_T26 l0 2).f1) - ((rd_T26 l0 0).f1))))) - (wrap64 ((wrap64 (((rd_T26 l0 1).f1) - ((rd_T26 l0 0).f1))) * (wrap64 (((rd_T26 l0 2).f0) - ((rd_T26 l0 0).f0))))))))) t2161 _ ?side1 ?side2 A37.out).mono ?_); (case side1 => repeat (first | exact (Kd.C_below HR0.out zb) | (with_reducible refine Kd.C_alloc ?_ _) | (with_reducible refine Kd.C_drewN ?_ _) | (with_reducible refine Kd.C_drew ?_))); (case side2 => exact HC0.out); rintro e w38 ⟨rfl, hb⟩; have n0_ := Aside0.mk (Kd.N_below (by (with_reducible repeat (first | apply Kd.N_alloc | apply Kd.N_drewN | apply Kd.N_drew)); exact HO_8.out) hb); have n1_ := Aside0.mk (blk_below (g := gb2152) (o := .cells #[.int .i64 (wrap64 (((rd_T26 l0 1).f0) - ((rd_T26 l0 0).f0))), .int .i64 (wrap64 (((rd_T26 l0 1).f1) - ((rd_T26 l0 0).f1)))] 26 (0, 0)) zk hb); have n2_ := Aside0.mk (blk_below (g := gb2157) (o := .cells #[.int .i64 (wrap64 (((rd_T26 l0 2).f0) - ((rd_T26 l0 0).f0))), .int .i64 (wrap64 (((rd_T26 l0 2).f1) - ((rd_T26 l0 0).f1)))] 26 (0, 0)) zk hb); have n3_ := Aside0.mk (below_step zb hb); clear HO_8; clear BK2152; clear BK2157; clear HB; have HO_8 := n0_; have BK2152 := n1_; have BK2157 := n2_; have HB := n3_; clear n0_ n1_ n2_ n3_; (try clear hb); (try clear hb2); (try clear hk); (try clear hi)))
                  go_meet
                  case rel => exact ⟨_, (decide (t2161 > a1)), (by first | rfl | (simp; done) | (simp [*]; done)), H', ⟨by have := HK1.out; have := HK2.out; have := HJ19.out; first | omega | exact Nat.le_refl _⟩, ⟨by (with_reducible repeat (first | apply Kd.N_alloc | apply Kd.N_drewN | apply Kd.N_drew)); exact HO_8.out⟩, ⟨zk⟩, ⟨zk⟩, ⟨zb⟩⟩
                 ·rw [if_neg c36] at H
                  have c36b0 : (t2160 == 1) = false := beq_eq_false_iff_ne.mpr c36
                  have c36b1 : (t2160 != 1) = true := bne_iff_ne.mpr c36
                  have H' := Aside0.mk H
                  clear H
                  go_wp2_with (first | (go_at_call 198; (with_reducible refine (spec_pgCommon.calls kj19 (wrap64 (Int.tdiv (wrap64 ((wrap64 (x9_1 * (wrap64 (((rd_T26 l0 2).f1) - ((rd_T26 l0 0).f1))))) - (wrap64 (x10_2 * (wrap64 (((rd_T26 l0 1).f1) - ((rd_T26 l0 0).f1))))))) (wrap64 ((wrap64 ((wrap64 (((rd_T26 l0 1).f0) - ((rd_T26 l0 0).f0))) * (wrap64 (((rd_T26 l0 2).f1) - ((rd_T26 l0 0).f1))))) - (wrap64 ((wrap64 (((rd_T26 l0 1).f1) - ((rd_T26 l0 0).f1))) * (wrap64 (((rd_T26 l0 2).f0) - ((rd_T26 l0 0).f0))))))))) (wrap64 (Int.tdiv (wrap64 ((wrap64 (x10_2 * (wrap64 (((rd_T26 l0 1).f0) - ((rd_T26 l0 0).f0))))) - (wrap64 (x9_1 * (wrap64 (((rd_T26 l0 2).f0) - ((rd_T26 l0 0).f0))))))) (wrap64 ((wrap64 ((wrap64 (((rd_T26 l0 1).f0) - ((rd_T26 l0 0).f0))) * (wrap64 (((rd_T26 l0 2).f1) - ((rd_T26 l0 0).f1))))) - (wrap64 ((wrap64 (((rd_T26 l0 1).f1) - ((rd_T26 l0 0).f1))) * (wrap64 (((rd_T26 l0 2).f0) - ((rd_T26 l0 0).f0))))))))) t2160 _ A35.out).mono ?_); rintro e w' ⟨rfl, ⟨nd, rfl⟩⟩))
                  go_meet
                  case rel => exact ⟨_, (true), (by first | rfl | (simp; done) | (simp [*]; done)), H', ⟨by have := HK1.out; have := HK2.out; have := HJ19.out; first | omega | exact Nat.le_refl _⟩, ⟨by (with_reducible repeat (first | apply Kd.N_alloc | apply Kd.N_drewN | apply Kd.N_drew)); exact HO_8.out⟩, ⟨zk⟩, ⟨zk⟩, ⟨zb⟩⟩
              case rest =>
               clear HC26
               try clear c1
               try clear c2
               try clear p2
               try clear q2
               try clear hx2
               try clear qi2
               try clear c3
               try clear p6
               try clear c15
               try clear c18
               try clear c18b0
               try clear c19
               try clear c19b0
               try clear p21
               try clear q21
               try clear hx21
               try clear qi21
               try clear c22
               try clear c22b0
               try clear c22b1
               try clear c23
               try clear c23b0
               try clear c23b1
               try clear c24
               try clear c25
               try clear c25b0
               try clear c25b1
               try clear c28
               try clear c28b0
               try clear c29
               try clear c29b0
               try clear c29b1
               try clear c30
               try clear c30b0
               try clear c32
               try clear c32b0
               try clear c32b1
               try clear c36
               try clear c36b0
               try clear c36b1
               try clear hcz16_0
               try clear hcz16_1
               try clear hcz17_0
               try clear hcz17_1
               try clear hfz16_0
               try clear hfz16_1
               try clear hfz17_0
               try clear hfz17_1
               try clear hx2148_0
               try clear hx2148_1
               try clear hx2149_0
               try clear hx2149_1
               try clear hx2150_0
               try clear hx2150_1
               try clear hx2151_0
               try clear hx2151_1
               try clear hx2153_0
               try clear hx2153_1
               try clear hx2154_0
               try clear hx2154_1
               try clear hx2155_0
               try clear hx2155_1
               try clear hx2156_0
               try clear hx2156_1
               try clear p2
               try clear p21
               try clear p2148
               try clear p2149
               try clear p2150
               try clear p2151
               try clear p2153
               try clear p2154
               try clear p2155
               try clear p2156
               try clear p6
               try clear q2
               try clear q21
               try clear q2148
               try clear q2149
               try clear q2150
               try clear q2151
               try clear q2153
               try clear q2154
               try clear q2155
               try clear q2156
               obtain ⟨kq, x137_25, rfl, HA, HJ25, HO_8, BK2152, BK2157, HB⟩ := hcut
               cases kq with
               | zero => exact absurd HA.out (by simp [spec_wiAll.j3])
               | succ kj25 =>
                have H := HA.out
                clear HA
                simp only [spec_wiAll.j3] at H
                by_cases c39 : x137_25 = true
                ·subst c39
                 have H1 : (spec_wiAll.l1 kj25 l0 a1 (wrap64 ((wrap64 ((wrap64 (((rd_T26 l0 1).f0) - ((rd_T26 l0 0).f0))) * (wrap64 (((rd_T26 l0 2).f1) - ((rd_T26 l0 0).f1))))) - (wrap64 ((wrap64 (((rd_T26 l0 1).f1) - ((rd_T26 l0 0).f1))) * (wrap64 (((rd_T26 l0 2).f0) - ((rd_T26 l0 0).f0))))))) x8_2 x9_1 (wrap64 (x10_2 + 1)) (wrap64 (((rd_T26 l0 1).f0) - ((rd_T26 l0 0).f0))) (wrap64 (((rd_T26 l0 1).f1) - ((rd_T26 l0 0).f1))) (wrap64 (((rd_T26 l0 2).f0) - ((rd_T26 l0 0).f0))) (wrap64 (((rd_T26 l0 2).f1) - ((rd_T26 l0 0).f1)))) = some r := by rw [if_pos rfl] at H; exact H
                 clear H
                 have H := H1
                 clear H1
                 have H' := Aside0.mk H
                 clear H
                 go_wp2
                 go_roundg kj25
                 case measure => have := HK1.out; have := HK2.out; have := HJ19.out; have := HJ25.out; omega
                 case rel => exact ⟨(x8_2), (wrap64 (x10_2 + 1)), (by first | rfl | (simp; done) | (simp [*]; done)), H', ⟨by have := HK1.out; have := HK2.out; have := HJ19.out; have := HJ25.out; omega⟩, ⟨by (with_reducible repeat (first | apply Kd.N_alloc | apply Kd.N_drewN | apply Kd.N_drew)); exact HO_8.out⟩, ⟨zk⟩, ⟨zk⟩, ⟨zb⟩⟩
                ·replace c39 := Bool.eq_false_iff.mpr c39
                 subst c39
                 have H1 : (spec_wiAll.l2 kj25 l0 a1 (wrap64 ((wrap64 ((wrap64 (((rd_T26 l0 1).f0) - ((rd_T26 l0 0).f0))) * (wrap64 (((rd_T26 l0 2).f1) - ((rd_T26 l0 0).f1))))) - (wrap64 ((wrap64 (((rd_T26 l0 1).f1) - ((rd_T26 l0 0).f1))) * (wrap64 (((rd_T26 l0 2).f0) - ((rd_T26 l0 0).f0))))))) x8_2 x9_1 x10_2 (wrap64 (Int.tdiv (wrap64 ((wrap64 (x9_1 * (wrap64 (((rd_T26 l0 2).f1) - ((rd_T26 l0 0).f1))))) - (wrap64 (x10_2 * (wrap64 (((rd_T26 l0 1).f1) - ((rd_T26 l0 0).f1))))))) (wrap64 ((wrap64 ((wrap64 (((rd_T26 l0 1).f0) - ((rd_T26 l0 0).f0))) * (wrap64 (((rd_T26 l0 2).f1) - ((rd_T26 l0 0).f1))))) - (wrap64 ((wrap64 (((rd_T26 l0 1).f1) - ((rd_T26 l0 0).f1))) * (wrap64 (((rd_T26 l0 2).f0) - ((rd_T26 l0 0).f0))))))))) (wrap64 (Int.tdiv (wrap64 ((wrap64 (x10_2 * (wrap64 (((rd_T26 l0 1).f0) - ((rd_T26 l0 0).f0))))) - (wrap64 (x9_1 * (wrap64 (((rd_T26 l0 2).f0) - ((rd_T26 l0 0).f0))))))) (wrap64 ((wrap64 ((wrap64 (((rd_T26 l0 1).f0) - ((rd_T26 l0 0).f0))) * (wrap64 (((rd_T26 l0 2).f1) - ((rd_T26 l0 0).f1))))) - (wrap64 ((wrap64 (((rd_T26 l0 1).f1) - ((rd_T26 l0 0).f1))) * (wrap64 (((rd_T26 l0 2).f0) - ((rd_T26 l0 0).f0))))))))) (x8_2.length : Int) (wrap64 (((rd_T26 l0 1).f0) - ((rd_T26 l0 0).f0))) (wrap64 (((rd_T26 l0 1).f1) - ((rd_T26 l0 0).f1))) (wrap64 (((rd_T26 l0 2).f0) - ((rd_T26 l0 0).f0))) (wrap64 (((rd_T26 l0 2).f1) - ((rd_T26 l0 0).f1)))) = some r := by rw [if_neg (show ¬ (false = true) by decide)] at H; exact H
                 clear H
                 have H := H1
                 clear H1
                 have H' := Aside0.mk H
                 clear H
                 obtain ⟨Ao40, co40, eo40⟩ := Kd.N_slice HO_8.out
                 subst eo40
                 go_wp2
                 go_loopg [15] kj25 (fun kq v15 w' => ∃ (x15_5 : Int), v15 = .int .i64 x15_5 ∧ Aside0 (spec_wiAll.l2 kq l0 a1 (wrap64 ((wrap64 ((wrap64 (((rd_T26 l0 1).f0) - ((rd_T26 l0 0).f0))) * (wrap64 (((rd_T26 l0 2).f1) - ((rd_T26 l0 0).f1))))) - (wrap64 ((wrap64 (((rd_T26 l0 1).f1) - ((rd_T26 l0 0).f1))) * (wrap64 (((rd_T26 l0 2).f0) - ((rd_T26 l0 0).f0))))))) x8_2 x9_1 x10_2 (wrap64 (Int.tdiv (wrap64 ((wrap64 (x9_1 * (wrap64 (((rd_T26 l0 2).f1) - ((rd_T26 l0 0).f1))))) - (wrap64 (x10_2 * (wrap64 (((rd_T26 l0 1).f1) - ((rd_T26 l0 0).f1))))))) (wrap64 ((wrap64 ((wrap64 (((rd_T26 l0 1).f0) - ((rd_T26 l0 0).f0))) * (wrap64 (((rd_T26 l0 2).f1) - ((rd_T26 l0 0).f1))))) - (wrap64 ((wrap64 (((rd_T26 l0 1).f1) - ((rd_T26 l0 0).f1))) * (wrap64 (((rd_T26 l0 2).f0) - ((rd_T26 l0 0).f0))))))))) (wrap64 (Int.tdiv (wrap64 ((wrap64 (x10_2 * (wrap64 (((rd_T26 l0 1).f0) - ((rd_T26 l0 0).f0))))) - (wrap64 (x9_1 * (wrap64 (((rd_T26 l0 2).f0) - ((rd_T26 l0 0).f0))))))) (wrap64 ((wrap64 ((wrap64 (((rd_T26 l0 1).f0) - ((rd_T26 l0 0).f0))) * (wrap64 (((rd_T26 l0 2).f1) - ((rd_T26 l0 0).f1))))) - (wrap64 ((wrap64 (((rd_T26 l0 1).f1) - ((rd_T26 l0 0).f1))) * (wrap64 (((rd_T26 l0 2).f0) - ((rd_T26 l0 0).f0))))))))) x15_5 (wrap64 (((rd_T26 l0 1).f0) - ((rd_T26 l0 0).f0))) (wrap64 (((rd_T26 l0 1).f1) - ((rd_T26 l0 0).f1))) (wrap64 (((rd_T26 l0 2).f0) - ((rd_T26 l0 0).f0))) (wrap64 (((rd_T26 l0 2).f1) - ((rd_T26 l0 0).f1))) = some r) ∧ Aside0 (kq ≤ kj25) ∧ Aside0 (Kd.N (Kd.slice 3 (Kd.int .i64)) 29 w' w.heap.size (fun k_ => (w.heap.size ≤ k_) ∧ k_ ≠ gb2152 ∧ k_ ≠ gb2157) (.slice Ao40 x8_2.length co40) x8_2) ∧ Aside0 (w'.heap[gb2152]? = some (.cells #[.int .i64 (wrap64 (((rd_T26 l0 1).f0) - ((rd_T26 l0 0).f0))), .int .i64 (wrap64 (((rd_T26 l0 1).f1) - ((rd_T26 l0 0).f1)))] 26 (0, 0))) ∧ Aside0 (w'.heap[gb2157]? = some (.cells #[.int .i64 (wrap64 (((rd_T26 l0 2).f0) - ((rd_T26 l0 0).f0))), .int .i64 (wrap64 (((rd_T26 l0 2).f1) - ((rd_T26 l0 0).f1)))] 26 (0, 0))) ∧ Aside0 (Below w.heap.size w w'))
                 case atStart => exact ⟨((x8_2.length : Int)), (by first | rfl | (simp; done) | (simp [*]; done)), H', ⟨Nat.le_refl _⟩, ⟨by (with_reducible repeat (first | apply Kd.N_alloc | apply Kd.N_drewN | apply Kd.N_drew)); exact HO_8.out⟩, ⟨zk⟩, ⟨zk⟩, ⟨zb⟩⟩
                 case round =>
                  clear H'
                  try clear c1
                  try clear c2
                  try clear p2
                  try clear q2
                  try clear hx2
                  try clear qi2
                  try clear c3
                  try clear p6
                  try clear c15
                  try clear c18
                  try clear c18b0
                  try clear c19
                  try clear c19b0
                  try clear p21
                  try clear q21
                  try clear hx21
                  try clear qi21
                  try clear c22
                  try clear c22b0
                  try clear c22b1
                  try clear c23
                  try clear c23b0
                  try clear c23b1
                  try clear c24
                  try clear c25
                  try clear c25b0
                  try clear c25b1
                  try clear c28
                  try clear c28b0
                  try clear c29
                  try clear c29b0
                  try clear c29b1
                  try clear c30
                  try clear c30b0
                  try clear c32
                  try clear c32b0
                  try clear c32b1
                  try clear c36
                  try clear c36b0
                  try clear c36b1
                  try clear c39
                  try clear hcz16_0
                  try clear hcz16_1
                  try clear hcz17_0
                  try clear hcz17_1
                  try clear hfz16_0
                  try clear hfz16_1
                  try clear hfz17_0
                  try clear hfz17_1
                  try clear hx2148_0
                  try clear hx2148_1
                  try clear hx2149_0
                  try clear hx2149_1
                  try clear hx2150_0
                  try clear hx2150_1
                  try clear hx2151_0
                  try clear hx2151_1
                  try clear hx2153_0
                  try clear hx2153_1
                  try clear hx2154_0
                  try clear hx2154_1
                  try clear hx2155_0
                  try clear hx2155_1
                  try clear hx2156_0
                  try clear hx2156_1
                  try clear p2
                  try clear p21
                  try clear p2148
                  try clear p2149
                  try clear p2150
                  try clear p2151
                  try clear p2153
                  try clear p2154
                  try clear p2155
                  try clear p2156
                  try clear p6
                  try clear q2
                  try clear q21
                  try clear q2148
                  try clear q2149
                  try clear q2150
                  try clear q2151
                  try clear q2153
                  try clear q2154
                  try clear q2155
                  try clear q2156
                  obtain ⟨x15_5, rfl, HA, HK5, HO_8, BK2152, BK2157, HB⟩ := hrel
                  cases gk with
                  | zero => exact absurd HA.out (by simp [spec_wiAll.l2])
                  | succ k5 =>
                   have H := HA.out
                   clear HA
                   simp only [spec_wiAll.l2] at H
                   have HC41 := Aside0.mk H
                   clear H
                   go_upto_region 16 with (fail)
                   go_cut [174] (fun v174 wc => ∃ (kq : Nat) (x174_40 : Bool), v174 = .bool x174_40 ∧ Aside0 (spec_wiAll.j5 kq l0 a1 (wrap64 ((wrap64 ((wrap64 (((rd_T26 l0 1).f0) - ((rd_T26 l0 0).f0))) * (wrap64 (((rd_T26 l0 2).f1) - ((rd_T26 l0 0).f1))))) - (wrap64 ((wrap64 (((rd_T26 l0 1).f1) - ((rd_T26 l0 0).f1))) * (wrap64 (((rd_T26 l0 2).f0) - ((rd_T26 l0 0).f0))))))) x8_2 x9_1 x10_2 (wrap64 (Int.tdiv (wrap64 ((wrap64 (x9_1 * (wrap64 (((rd_T26 l0 2).f1) - ((rd_T26 l0 0).f1))))) - (wrap64 (x10_2 * (wrap64 (((rd_T26 l0 1).f1) - ((rd_T26 l0 0).f1))))))) (wrap64 ((wrap64 ((wrap64 (((rd_T26 l0 1).f0) - ((rd_T26 l0 0).f0))) * (wrap64 (((rd_T26 l0 2).f1) - ((rd_T26 l0 0).f1))))) - (wrap64 ((wrap64 (((rd_T26 l0 1).f1) - ((rd_T26 l0 0).f1))) * (wrap64 (((rd_T26 l0 2).f0) - ((rd_T26 l0 0).f0))))))))) (wrap64 (Int.tdiv (wrap64 ((wrap64 (x10_2 * (wrap64 (((rd_T26 l0 1).f0) - ((rd_T26 l0 0).f0))))) - (wrap64 (x9_1 * (wrap64 (((rd_T26 l0 2).f0) - ((rd_T26 l0 0).f0))))))) (wrap64 ((wrap64 ((wrap64 (((rd_T26 l0 1).f0) - ((rd_T26 l0 0).f0))) * (wrap64 (((rd_T26 l0 2).f1) - ((rd_T26 l0 0).f1))))) - (wrap64 ((wrap64 (((rd_T26 l0 1).f1) - ((rd_T26 l0 0).f1))) * (wrap64 (((rd_T26 l0 2).f0) - ((rd_T26 l0 0).f0))))))))) x15_5 x174_40 (wrap64 (((rd_T26 l0 1).f0) - ((rd_T26 l0 0).f0))) (wrap64 (((rd_T26 l0 1).f1) - ((rd_T26 l0 0).f1))) (wrap64 (((rd_T26 l0 2).f0) - ((rd_T26 l0 0).f0))) (wrap64 (((rd_T26 l0 2).f1) - ((rd_T26 l0 0).f1))) = some r) ∧ Aside0 (kq ≤ k5) ∧ Aside0 (Kd.N (Kd.slice 3 (Kd.int .i64)) 29 wc w.heap.size (fun k_ => (w.heap.size ≤ k_) ∧ k_ ≠ gb2152 ∧ k_ ≠ gb2157) (.slice Ao40 x8_2.length co40) x8_2) ∧ Aside0 (wc.heap[gb2152]? = some (.cells #[.int .i64 (wrap64 (((rd_T26 l0 1).f0) - ((rd_T26 l0 0).f0))), .int .i64 (wrap64 (((rd_T26 l0 1).f1) - ((rd_T26 l0 0).f1)))] 26 (0, 0))) ∧ Aside0 (wc.heap[gb2157]? = some (.cells #[.int .i64 (wrap64 (((rd_T26 l0 2).f0) - ((rd_T26 l0 0).f0))), .int .i64 (wrap64 (((rd_T26 l0 2).f1) - ((rd_T26 l0 0).f1)))] 26 (0, 0))) ∧ Aside0 (Below w.heap.size w wc))
                   case first =>
                    have H := HC41.out
                    clear HC41
                    by_cases c42 : x15_5 > 0
                    ·rw [if_pos c42] at H
                     have c42b0 : decide (0 < x15_5) = true := decide_eq_true c42
                     clear c42
                     (first | rw [c42b0] | (simp only [i64_w, i32_w]; rw [c42b0]) | skip)
                     obtain ⟨ji43, hji43⟩ : ∃ j_ : Int, (wrap64 (x15_5 - 1)) = j_ := ⟨_, rfl⟩
                     replace H : (if 0 ≤ (ji43) then (if (ji43) < (x8_2.length : Int) then (if 0 < ((rd_L6 x8_2 (ji43)).length : Int) then (if (wrap64 (Int.tdiv (wrap64 ((wrap64 (x9_1 * (wrap64 (((rd_T26 l0 2).f1) - ((rd_T26 l0 0).f1))))) - (wrap64 (x10_2 * (wrap64 (((rd_T26 l0 1).f1) - ((rd_T26 l0 0).f1))))))) (wrap64 ((wrap64 ((wrap64 (((rd_T26 l0 1).f0) - ((rd_T26 l0 0).f0))) * (wrap64 (((rd_T26 l0 2).f1) - ((rd_T26 l0 0).f1))))) - (wrap64 ((wrap64 (((rd_T26 l0 1).f1) - ((rd_T26 l0 0).f1))) * (wrap64 (((rd_T26 l0 2).f0) - ((rd_T26 l0 0).f0))))))))) < (rd (rd_L6 x8_2 (ji43)) 0) then (spec_wiAll.j5 k5 l0 a1 (wrap64 ((wrap64 ((wrap64 (((rd_T26 l0 1).f0) - ((rd_T26 l0 0).f0))) * (wrap64 (((rd_T26 l0 2).f1) - ((rd_T26 l0 0).f1))))) - (wrap64 ((wrap64 (((rd_T26 l0 1).f1) - ((rd_T26 l0 0).f1))) * (wrap64 (((rd_T26 l0 2).f0) - ((rd_T26 l0 0).f0))))))) x8_2 x9_1 x10_2 (wrap64 (Int.tdiv (wrap64 ((wrap64 (x9_1 * (wrap64 (((rd_T26 l0 2).f1) - ((rd_T26 l0 0).f1))))) - (wrap64 (x10_2 * (wrap64 (((rd_T26 l0 1).f1) - ((rd_T26 l0 0).f1))))))) (wrap64 ((wrap64 ((wrap64 (((rd_T26 l0 1).f0) - ((rd_T26 l0 0).f0))) * (wrap64 (((rd_T26 l0 2).f1) - ((rd_T26 l0 0).f1))))) - (wrap64 ((wrap64 (((rd_T26 l0 1).f1) - ((rd_T26 l0 0).f1))) * (wrap64 (((rd_T26 l0 2).f0) - ((rd_T26 l0 0).f0))))))))) (wrap64 (Int.tdiv (wrap64 ((wrap64 (x10_2 * (wrap64 (((rd_T26 l0 1).f0) - ((rd_T26 l0 0).f0))))) - (wrap64 (x9_1 * (wrap64 (((rd_T26 l0 2).f0) - ((rd_T26 l0 0).f0))))))) (wrap64 ((wrap64 ((wrap64 (((rd_T26 l0 1).f0) - ((rd_T26 l0 0).f0))) * (wrap64 (((rd_T26 l0 2).f1) - ((rd_T26 l0 0).f1))))) - (wrap64 ((wrap64 (((rd_T26 l0 1).f1) - ((rd_T26 l0 0).f1))) * (wrap64 (((rd_T26 l0 2).f0) - ((rd_T26 l0 0).f0))))))))) x15_5 true (wrap64 (((rd_T26 l0 1).f0) - ((rd_T26 l0 0).f0))) (wrap64 (((rd_T26 l0 1).f1) - ((rd_T26 l0 0).f1))) (wrap64 (((rd_T26 l0 2).f0) - ((rd_T26 l0 0).f0))) (wrap64 (((rd_T26 l0 2).f1) - ((rd_T26 l0 0).f1)))) else (if (wrap64 (Int.tdiv (wrap64 ((wrap64 (x9_1 * (wrap64 (((rd_T26 l0 2).f1) - ((rd_T26 l0 0).f1))))) - (wrap64 (x10_2 * (wrap64 (((rd_T26 l0 1).f1) - ((rd_T26 l0 0).f1))))))) (wrap64 ((wrap64 ((wrap64 (((rd_T26 l0 1).f0) - ((rd_T26 l0 0).f0))) * (wrap64 (((rd_T26 l0 2).f1) - ((rd_T26 l0 0).f1))))) - (wrap64 ((wrap64 (((rd_T26 l0 1).f1) - ((rd_T26 l0 0).f1))) * (wrap64 (((rd_T26 l0 2).f0) - ((rd_T26 l0 0).f0))))))))) = (rd (rd_L6 x8_2 (ji43)) 0) then (if 1 < ((rd_L6 x8_2 (ji43)).length : Int) then (spec_wiAll.j5 k5 l0 a1 (wrap64 ((wrap64 ((wrap64 (((rd_T26 l0 1).f0) - ((rd_T26 l0 0).f0))) * (wrap64 (((rd_T26 l0 2).f1) - ((rd_T26 l0 0).f1))))) - (wrap64 ((wrap64 (((rd_T26 l0 1).f1) - ((rd_T26 l0 0).f1))) * (wrap64 (((rd_T26 l0 2).f0) - ((rd_T26 l0 0).f0))))))) x8_2 x9_1 x10_2 (wrap64 (Int.tdiv (wrap64 ((wrap64 (x9_1 * (wrap64 (((rd_T26 l0 2).f1) - ((rd_T26 l0 0).f1))))) - (wrap64 (x10_2 * (wrap64 (((rd_T26 l0 1).f1) - ((rd_T26 l0 0).f1))))))) (wrap64 ((wrap64 ((wrap64 (((rd_T26 l0 1).f0) - ((rd_T26 l0 0).f0))) * (wrap64 (((rd_T26 l0 2).f1) - ((rd_T26 l0 0).f1))))) - (wrap64 ((wrap64 (((rd_T26 l0 1).f1) - ((rd_T26 l0 0).f1))) * (wrap64 (((rd_T26 l0 2).f0) - ((rd_T26 l0 0).f0))))))))) (wrap64 (Int.tdiv (wrap64 ((wrap64 (x10_2 * (wrap64 (((rd_T26 l0 1).f0) - ((rd_T26 l0 0).f0))))) - (wrap64 (x9_1 * (wrap64 (((rd_T26 l0 2).f0) - ((rd_T26 l0 0).f0))))))) (wrap64 ((wrap64 ((wrap64 (((rd_T26 l0 1).f0) - ((rd_T26 l0 0).f0))) * (wrap64 (((rd_T26 l0 2).f1) - ((rd_T26 l0 0).f1))))) - (wrap64 ((wrap64 (((rd_T26 l0 1).f1) - ((rd_T26 l0 0).f1))) * (wrap64 (((rd_T26 l0 2).f0) - ((rd_T26 l0 0).f0))))))))) x15_5 (decide ((wrap64 (Int.tdiv (wrap64 ((wrap64 (x10_2 * (wrap64 (((rd_T26 l0 1).f0) - ((rd_T26 l0 0).f0))))) - (wrap64 (x9_1 * (wrap64 (((rd_T26 l0 2).f0) - ((rd_T26 l0 0).f0))))))) (wrap64 ((wrap64 ((wrap64 (((rd_T26 l0 1).f0) - ((rd_T26 l0 0).f0))) * (wrap64 (((rd_T26 l0 2).f1) - ((rd_T26 l0 0).f1))))) - (wrap64 ((wrap64 (((rd_T26 l0 1).f1) - ((rd_T26 l0 0).f1))) * (wrap64 (((rd_T26 l0 2).f0) - ((rd_T26 l0 0).f0))))))))) < (rd (rd_L6 x8_2 (ji43)) 1))) (wrap64 (((rd_T26 l0 1).f0) - ((rd_T26 l0 0).f0))) (wrap64 (((rd_T26 l0 1).f1) - ((rd_T26 l0 0).f1))) (wrap64 (((rd_T26 l0 2).f0) - ((rd_T26 l0 0).f0))) (wrap64 (((rd_T26 l0 2).f1) - ((rd_T26 l0 0).f1)))) else (none)) else (spec_wiAll.j5 k5 l0 a1 (wrap64 ((wrap64 ((wrap64 (((rd_T26 l0 1).f0) - ((rd_T26 l0 0).f0))) * (wrap64 (((rd_T26 l0 2).f1) - ((rd_T26 l0 0).f1))))) - (wrap64 ((wrap64 (((rd_T26 l0 1).f1) - ((rd_T26 l0 0).f1))) * (wrap64 (((rd_T26 l0 2).f0) - ((rd_T26 l0 0).f0))))))) x8_2 x9_1 x10_2 (wrap64 (Int.tdiv (wrap64 ((wrap64 (x9_1 * (wrap64 (((rd_T26 l0 2).f1) - ((rd_T26 l0 0).f1))))) - (wrap64 (x10_2 * (wrap64 (((rd_T26 l0 1).f1) - ((rd_T26 l0 0).f1))))))) (wrap64 ((wrap64 ((wrap64 (((rd_T26 l0 1).f0) - ((rd_T26 l0 0).f0))) * (wrap64 (((rd_T26 l0 2).f1) - ((rd_T26 l0 0).f1))))) - (wrap64 ((wrap64 (((rd_T26 l0 1).f1) - ((rd_T26 l0 0).f1))) * (wrap64 (((rd_T26 l0 2).f0) - ((rd_T26 l0 0).f0))))))))) (wrap64 (Int.tdiv (wrap64 ((wrap64 (x10_2 * (wrap64 (((rd_T26 l0 1).f0) - ((rd_T26 l0 0).f0))))) - (wrap64 (x9_1 * (wrap64 (((rd_T26 l0 2).f0) - ((rd_T26 l0 0).f0))))))) (wrap64 ((wrap64 ((wrap64 (((rd_T26 l0 1).f0) - ((rd_T26 l0 0).f0))) * (wrap64 (((rd_T26 l0 2).f1) - ((rd_T26 l0 0).f1))))) - (wrap64 ((wrap64 (((rd_T26 l0 1).f1) - ((rd_T26 l0 0).f1))) * (wrap64 (((rd_T26 l0 2).f0) - ((rd_T26 l0 0).f0))))))))) x15_5 false (wrap64 (((rd_T26 l0 1).f0) - ((rd_T26 l0 0).f0))) (wrap64 (((rd_T26 l0 1).f1) - ((rd_T26 l0 0).f1))) (wrap64 (((rd_T26 l0 2).f0) - ((rd_T26 l0 0).f0))) (wrap64 (((rd_T26 l0 2).f1) - ((rd_T26 l0 0).f1)))))) else (none)) else (none)) else (none)) = some r := by first | (rw [hji43] at H; exact H) | (simp only [hji43] at H ⊢; exact H)
                     have hji43w : (IntKind.i64.wrap (x15_5 - 1)) = ji43 := (i64_w _).trans hji43
                     by_cases c44 : 0 ≤ (ji43)
                     ·rw [if_pos c44] at H
                      have c44b0 : decide (0 ≤ (ji43)) = true := decide_eq_true c44
                      clear c44
                      by_cases c45 : (ji43) < (x8_2.length : Int)
                      ·rw [if_pos c45] at H
                       have c45b0 : decide ((ji43) < (x8_2.length : Int)) = true := decide_eq_true c45
                       clear c45
                       by_cases c46 : 0 < ((rd_L6 x8_2 (ji43)).length : Int)
                       ·rw [if_pos c46] at H
                        have c46b0 : decide (0 < ((rd_L6 x8_2 (ji43)).length : Int)) = true := decide_eq_true c46
                        have c46b1 : decide (0 < (rd_L6 x8_2 (ji43)).length) = true := decide_eq_true (by omega)
                        clear c46
                        by_cases c47 : (wrap64 (Int.tdiv (wrap64 ((wrap64 (x9_1 * (wrap64 (((rd_T26 l0 2).f1) - ((rd_T26 l0 0).f1))))) - (wrap64 (x10_2 * (wrap64 (((rd_T26 l0 1).f1) - ((rd_T26 l0 0).f1))))))) (wrap64 ((wrap64 ((wrap64 (((rd_T26 l0 1).f0) - ((rd_T26 l0 0).f0))) * (wrap64 (((rd_T26 l0 2).f1) - ((rd_T26 l0 0).f1))))) - (wrap64 ((wrap64 (((rd_T26 l0 1).f1) - ((rd_T26 l0 0).f1))) * (wrap64 (((rd_T26 l0 2).f0) - ((rd_T26 l0 0).f0))))))))) < (rd (rd_L6 x8_2 (ji43)) 0)
                        ·rw [if_pos c47] at H
                         have c47b0 : decide ((wrap64 (Int.tdiv (wrap64 ((wrap64 (x9_1 * (wrap64 (((rd_T26 l0 2).f1) - ((rd_T26 l0 0).f1))))) - (wrap64 (x10_2 * (wrap64 (((rd_T26 l0 1).f1) - ((rd_T26 l0 0).f1))))))) (wrap64 ((wrap64 ((wrap64 (((rd_T26 l0 1).f0) - ((rd_T26 l0 0).f0))) * (wrap64 (((rd_T26 l0 2).f1) - ((rd_T26 l0 0).f1))))) - (wrap64 ((wrap64 (((rd_T26 l0 1).f1) - ((rd_T26 l0 0).f1))) * (wrap64 (((rd_T26 l0 2).f0) - ((rd_T26 l0 0).f0))))))))) < (rd (rd_L6 x8_2 (ji43)) 0)) = true := decide_eq_true c47
                         clear c47
                         have H' := Aside0.mk H
                         clear H
                         have p2162 : 0 ≤ ((ji43) : Int) := of_decide_eq_true (by first | (with_reducible assumption) | assumption)
                         have q2162 : (ji43) < (x8_2.length : Int) := of_decide_eq_true (by first | (with_reducible assumption) | assumption)
                         obtain ⟨ad2162, A2162_0, c2162_0, e2162, hx2162_0, hl2162_0, hi2162_0⟩ := at_L6 (Kd.N_reads' HO_8.out).2.2 (ji43) p2162 q2162
                         cases e2162
                         obtain ⟨ce2162, hce2162, hMe2162, hcc2162⟩ := Kd.N_get HO_8.out [] (ji43) p2162 (by first | exact q2162 | exact of_decide_eq_true (by first | (with_reducible assumption) | assumption) | (have e_ := (Kd.N_reads' HO_8.out).1; omega))
                         obtain ⟨ua2162_0, uc2162_0, rfl, ul2162_0, ge2162_0⟩ := Kd.FK_slice_open hMe2162
                         have hv2162_0 := hcc2162 0 _ rfl
                         rw [Nat.add_zero, show ((Kd.slice 3 (Kd.int .i64))).sz = 1 from rfl, Nat.mul_one] at hv2162_0
                         replace hv2162_0 := Option.some.inj (hv2162_0.symm.trans hx2162_0)
                         injection hv2162_0 with hva_ hvn_ hvc_
                         rw [hva_] at ge2162_0
                         rw [hvc_] at ul2162_0
                         have HL2162_0 := Aside0.mk (show Kd.V (Kd.int .i64) 3 _ w.heap.size _ _ (rd_L6 x8_2 (ji43)) from Kd.V_mk ul2162_0 ge2162_0)
                         clear hva_ hvn_ hvc_ ge2162_0 ul2162_0
                         clear hcc2162 hce2162
                         have HR2162_0 := Aside0.mk hi2162_0
                         have HC2162_0 := Aside0.mk hl2162_0
                         clear hi2162_0 hl2162_0
                         replace p2162 := eq_true p2162
                         replace q2162 := eq_true q2162
                         have p2163 : 0 ≤ (0 : Int) := (by omega)
                         have q2163 : 0 < ((rd_L6 x8_2 (ji43)).length : Int) := of_decide_eq_true (by first | (with_reducible assumption) | assumption)
                         obtain ⟨ad2163, e2163, hx2163_0⟩ := Kd.at_int (by repeat (first | (with_reducible exact HR2162_0.out) | (with_reducible refine Kd.C_alloc ?_ _) | (with_reducible refine Kd.C_drewN ?_ _) | (with_reducible refine Kd.C_drew ?_) | exact HR2162_0.out)) 0 p2163 q2163
                         cases e2163
                         have qi2163 : (0 < (rd_L6 x8_2 (ji43)).length) = True := eq_true (by omega)
                         (try rw [show ((0 : Int)).toNat = 0 from rfl] at hx2163_0)
                         (try rw [Addr.add_zero'] at hx2163_0)
                         replace p2163 := eq_true p2163
                         replace q2163 := eq_true q2163
                         go_wp2
                         go_meet
                         case rel => exact ⟨_, (true), (by first | rfl | (simp; done) | (simp [*]; done)), H', ⟨by have := HK1.out; have := HK2.out; have := HJ19.out; have := HJ25.out; have := HK5.out; first | omega | exact Nat.le_refl _⟩, ⟨by (with_reducible repeat (first | apply Kd.N_alloc | apply Kd.N_drewN | apply Kd.N_drew)); exact HO_8.out⟩, ⟨zk⟩, ⟨zk⟩, ⟨zb⟩⟩
                        ·rw [if_neg c47] at H
                         have c47b0 : decide ((wrap64 (Int.tdiv (wrap64 ((wrap64 (x9_1 * (wrap64 (((rd_T26 l0 2).f1) - ((rd_T26 l0 0).f1))))) - (wrap64 (x10_2 * (wrap64 (((rd_T26 l0 1).f1) - ((rd_T26 l0 0).f1))))))) (wrap64 ((wrap64 ((wrap64 (((rd_T26 l0 1).f0) - ((rd_T26 l0 0).f0))) * (wrap64 (((rd_T26 l0 2).f1) - ((rd_T26 l0 0).f1))))) - (wrap64 ((wrap64 (((rd_T26 l0 1).f1) - ((rd_T26 l0 0).f1))) * (wrap64 (((rd_T26 l0 2).f0) - ((rd_T26 l0 0).f0))))))))) < (rd (rd_L6 x8_2 (ji43)) 0)) = false := decide_eq_false c47
                         clear c47
                         by_cases c48 : (wrap64 (Int.tdiv (wrap64 ((wrap64 (x9_1 * (wrap64 (((rd_T26 l0 2).f1) - ((rd_T26 l0 0).f1))))) - (wrap64 (x10_2 * (wrap64 (((rd_T26 l0 1).f1) - ((rd_T26 l0 0).f1))))))) (wrap64 ((wrap64 ((wrap64 (((rd_T26 l0 1).f0) - ((rd_T26 l0 0).f0))) * (wrap64 (((rd_T26 l0 2).f1) - ((rd_T26 l0 0).f1))))) - (wrap64 ((wrap64 (((rd_T26 l0 1).f1) - ((rd_T26 l0 0).f1))) * (wrap64 (((rd_T26 l0 2).f0) - ((rd_T26 l0 0).f0))))))))) = (rd (rd_L6 x8_2 (ji43)) 0)
                         ·rw [if_pos c48] at H
                          have c48b0 : ((wrap64 (Int.tdiv (wrap64 ((wrap64 (x9_1 * (wrap64 (((rd_T26 l0 2).f1) - ((rd_T26 l0 0).f1))))) - (wrap64 (x10_2 * (wrap64 (((rd_T26 l0 1).f1) - ((rd_T26 l0 0).f1))))))) (wrap64 ((wrap64 ((wrap64 (((rd_T26 l0 1).f0) - ((rd_T26 l0 0).f0))) * (wrap64 (((rd_T26 l0 2).f1) - ((rd_T26 l0 0).f1))))) - (wrap64 ((wrap64 (((rd_T26 l0 1).f1) - ((rd_T26 l0 0).f1))) * (wrap64 (((rd_T26 l0 2).f0) - ((rd_T26 l0 0).f0))))))))) == (rd (rd_L6 x8_2 (ji43)) 0)) = true := beq_iff_eq.mpr c48
                          have c48b1 : ((wrap64 (Int.tdiv (wrap64 ((wrap64 (x9_1 * (wrap64 (((rd_T26 l0 2).f1) - ((rd_T26 l0 0).f1))))) - (wrap64 (x10_2 * (wrap64 (((rd_T26 l0 1).f1) - ((rd_T26 l0 0).f1))))))) (wrap64 ((wrap64 ((wrap64 (((rd_T26 l0 1).f0) - ((rd_T26 l0 0).f0))) * (wrap64 (((rd_T26 l0 2).f1) - ((rd_T26 l0 0).f1))))) - (wrap64 ((wrap64 (((rd_T26 l0 1).f1) - ((rd_T26 l0 0).f1))) * (wrap64 (((rd_T26 l0 2).f0) - ((rd_T26 l0 0).f0))))))))) != (rd (rd_L6 x8_2 (ji43)) 0)) = false := bne_eq_false_iff_eq.mpr c48
                          clear c48
                          by_cases c49 : 1 < ((rd_L6 x8_2 (ji43)).length : Int)
                          ·rw [if_pos c49] at H
                           have c49b0 : decide (1 < ((rd_L6 x8_2 (ji43)).length : Int)) = true := decide_eq_true c49
                           have c49b1 : decide (1 < (rd_L6 x8_2 (ji43)).length) = true := decide_eq_true (by omega)
                           clear c49
                           have H' := Aside0.mk H
                           clear H
                           have p2162 : 0 ≤ ((ji43) : Int) := of_decide_eq_true (by first | (with_reducible assumption) | assumption)
                           have q2162 : (ji43) < (x8_2.length : Int) := of_decide_eq_true (by first | (with_reducible assumption) | assumption)
                           obtain ⟨ad2162, A2162_0, c2162_0, e2162, hx2162_0, hl2162_0, hi2162_0⟩ := at_L6 (Kd.N_reads' HO_8.out).2.2 (ji43) p2162 q2162
                           cases e2162
                           obtain ⟨ce2162, hce2162, hMe2162, hcc2162⟩ := Kd.N_get HO_8.out [] (ji43) p2162 (by first | exact q2162 | exact of_decide_eq_true (by first | (with_reducible assumption) | assumption) | (have e_ := (Kd.N_reads' HO_8.out).1; omega))
                           obtain ⟨ua2162_0, uc2162_0, rfl, ul2162_0, ge2162_0⟩ := Kd.FK_slice_open hMe2162
                           have hv2162_0 := hcc2162 0 _ rfl
                           rw [Nat.add_zero, show ((Kd.slice 3 (Kd.int .i64))).sz = 1 from rfl, Nat.mul_one] at hv2162_0
                           replace hv2162_0 := Option.some.inj (hv2162_0.symm.trans hx2162_0)
                           injection hv2162_0 with hva_ hvn_ hvc_
                           rw [hva_] at ge2162_0
                           rw [hvc_] at ul2162_0
                           have HL2162_0 := Aside0.mk (show Kd.V (Kd.int .i64) 3 _ w.heap.size _ _ (rd_L6 x8_2 (ji43)) from Kd.V_mk ul2162_0 ge2162_0)
                           clear hva_ hvn_ hvc_ ge2162_0 ul2162_0
                           clear hcc2162 hce2162
                           have HR2162_0 := Aside0.mk hi2162_0
                           have HC2162_0 := Aside0.mk hl2162_0
                           clear hi2162_0 hl2162_0
                           replace p2162 := eq_true p2162
                           replace q2162 := eq_true q2162
                           have p2163 : 0 ≤ (0 : Int) := (by omega)
                           have q2163 : 0 < ((rd_L6 x8_2 (ji43)).length : Int) := of_decide_eq_true (by first | (with_reducible assumption) | assumption)
                           obtain ⟨ad2163, e2163, hx2163_0⟩ := Kd.at_int (by repeat (first | (with_reducible exact HR2162_0.out) | (with_reducible refine Kd.C_alloc ?_ _) | (with_reducible refine Kd.C_drewN ?_ _) | (with_reducible refine Kd.C_drew ?_) | exact HR2162_0.out)) 0 p2163 q2163
                           cases e2163
                           have qi2163 : (0 < (rd_L6 x8_2 (ji43)).length) = True := eq_true (by omega)
                           (try rw [show ((0 : Int)).toNat = 0 from rfl] at hx2163_0)
                           (try rw [Addr.add_zero'] at hx2163_0)
                           replace p2163 := eq_true p2163
                           replace q2163 := eq_true q2163
                           have p2164 : 0 ≤ ((ji43) : Int) := of_decide_eq_true (by first | (with_reducible assumption) | assumption)
                           have q2164 : (ji43) < (x8_2.length : Int) := of_decide_eq_true (by first | (with_reducible assumption) | assumption)
                           obtain ⟨ad2164, A2164_0, c2164_0, e2164, hx2164_0, hl2164_0, hi2164_0⟩ := at_L6 (Kd.N_reads' HO_8.out).2.2 (ji43) p2164 q2164
                           obtain rfl : ad2162 = ad2164 := (by injection e2164)
                           obtain ⟨ce2164, hce2164, hMe2164, hcc2164⟩ := Kd.N_get HO_8.out [] (ji43) p2164 (by first | exact q2164 | exact of_decide_eq_true (by first | (with_reducible assumption) | assumption) | (have e_ := (Kd.N_reads' HO_8.out).1; omega))
                           obtain ⟨ua2164_0, uc2164_0, rfl, ul2164_0, ge2164_0⟩ := Kd.FK_slice_open hMe2164
                           have hv2164_0 := hcc2164 0 _ rfl
                           rw [Nat.add_zero, show ((Kd.slice 3 (Kd.int .i64))).sz = 1 from rfl, Nat.mul_one] at hv2164_0
                           replace hv2164_0 := Option.some.inj (hv2164_0.symm.trans hx2164_0)
                           injection hv2164_0 with hva_ hvn_ hvc_
                           rw [hva_] at ge2164_0
                           rw [hvc_] at ul2164_0
                           have HL2164_0 := Aside0.mk (show Kd.V (Kd.int .i64) 3 _ w.heap.size _ _ (rd_L6 x8_2 (ji43)) from Kd.V_mk ul2164_0 ge2164_0)
                           clear hva_ hvn_ hvc_ ge2164_0 ul2164_0
                           clear hcc2164 hce2164
                           have HR2164_0 := Aside0.mk hi2164_0
                           have HC2164_0 := Aside0.mk hl2164_0
                           clear hi2164_0 hl2164_0
                           replace p2164 := eq_true p2164
                           replace q2164 := eq_true q2164
                           have ea_ := Option.some.inj (hx2162_0.symm.trans hx2164_0)
                           injection ea_ with ea_ en_ ec_
                           subst ea_
                           subst ec_
                           clear en_
                           have p2165 : 0 ≤ (0 : Int) := (by omega)
                           have q2165 : 0 < ((rd_L6 x8_2 (ji43)).length : Int) := of_decide_eq_true (by first | (with_reducible assumption) | assumption)
                           obtain ⟨ad2165, e2165, hx2165_0⟩ := Kd.at_int (by repeat (first | (with_reducible exact HR2164_0.out) | (with_reducible refine Kd.C_alloc ?_ _) | (with_reducible refine Kd.C_drewN ?_ _) | (with_reducible refine Kd.C_drew ?_) | exact HR2164_0.out)) 0 p2165 q2165
                           cases e2165
                           have qi2165 : (0 < (rd_L6 x8_2 (ji43)).length) = True := eq_true (by omega)
                           (try rw [show ((0 : Int)).toNat = 0 from rfl] at hx2165_0)
                           (try rw [Addr.add_zero'] at hx2165_0)
                           replace p2165 := eq_true p2165
                           replace q2165 := eq_true q2165
                           have p2166 : 0 ≤ ((ji43) : Int) := of_decide_eq_true (by first | (with_reducible assumption) | assumption)
                           have q2166 : (ji43) < (x8_2.length : Int) := of_decide_eq_true (by first | (with_reducible assumption) | assumption)
                           obtain ⟨ad2166, A2166_0, c2166_0, e2166, hx2166_0, hl2166_0, hi2166_0⟩ := at_L6 (Kd.N_reads' HO_8.out).2.2 (ji43) p2166 q2166
                           obtain rfl : ad2162 = ad2166 := (by injection e2166)
                           obtain ⟨ce2166, hce2166, hMe2166, hcc2166⟩ := Kd.N_get HO_8.out [] (ji43) p2166 (by first | exact q2166 | exact of_decide_eq_true (by first | (with_reducible assumption) | assumption) | (have e_ := (Kd.N_reads' HO_8.out).1; omega))
                           obtain ⟨ua2166_0, uc2166_0, rfl, ul2166_0, ge2166_0⟩ := Kd.FK_slice_open hMe2166
                           have hv2166_0 := hcc2166 0 _ rfl
                           rw [Nat.add_zero, show ((Kd.slice 3 (Kd.int .i64))).sz = 1 from rfl, Nat.mul_one] at hv2166_0
                           replace hv2166_0 := Option.some.inj (hv2166_0.symm.trans hx2166_0)
                           injection hv2166_0 with hva_ hvn_ hvc_
                           rw [hva_] at ge2166_0
                           rw [hvc_] at ul2166_0
                           have HL2166_0 := Aside0.mk (show Kd.V (Kd.int .i64) 3 _ w.heap.size _ _ (rd_L6 x8_2 (ji43)) from Kd.V_mk ul2166_0 ge2166_0)
                           clear hva_ hvn_ hvc_ ge2166_0 ul2166_0
                           clear hcc2166 hce2166
                           have HR2166_0 := Aside0.mk hi2166_0
                           have HC2166_0 := Aside0.mk hl2166_0
                           clear hi2166_0 hl2166_0
                           replace p2166 := eq_true p2166
                           replace q2166 := eq_true q2166
                           have ea_ := Option.some.inj (hx2162_0.symm.trans hx2166_0)
                           injection ea_ with ea_ en_ ec_
                           subst ea_
                           subst ec_
                           clear en_
                           have p2167 : 0 ≤ (1 : Int) := (by omega)
                           have q2167 : 1 < ((rd_L6 x8_2 (ji43)).length : Int) := of_decide_eq_true (by first | (with_reducible assumption) | assumption)
                           obtain ⟨ad2167, e2167, hx2167_0⟩ := Kd.at_int (by repeat (first | (with_reducible exact HR2166_0.out) | (with_reducible refine Kd.C_alloc ?_ _) | (with_reducible refine Kd.C_drewN ?_ _) | (with_reducible refine Kd.C_drew ?_) | exact HR2166_0.out)) 1 p2167 q2167
                           cases e2167
                           (try simp only [show (1 : Int).toNat = 1 from rfl, Nat.reduceMul, Nat.reduceEqDiff, Go.Addr.add, ↓reduceIte] at hx2167_0)
                           have qi2167 : (1 < (rd_L6 x8_2 (ji43)).length) = True := eq_true (by omega)
                           (try rw [show ((1 : Int)).toNat = 1 from rfl] at hx2167_0)
                           replace p2167 := eq_true p2167
                           replace q2167 := eq_true q2167
                           go_wp2
                           go_meet
                           case rel => exact ⟨_, (decide ((wrap64 (Int.tdiv (wrap64 ((wrap64 (x10_2 * (wrap64 (((rd_T26 l0 1).f0) - ((rd_T26 l0 0).f0))))) - (wrap64 (x9_1 * (wrap64 (((rd_T26 l0 2).f0) - ((rd_T26 l0 0).f0))))))) (wrap64 ((wrap64 ((wrap64 (((rd_T26 l0 1).f0) - ((rd_T26 l0 0).f0))) * (wrap64 (((rd_T26 l0 2).f1) - ((rd_T26 l0 0).f1))))) - (wrap64 ((wrap64 (((rd_T26 l0 1).f1) - ((rd_T26 l0 0).f1))) * (wrap64 (((rd_T26 l0 2).f0) - ((rd_T26 l0 0).f0))))))))) < (rd (rd_L6 x8_2 (ji43)) 1))), (by first | rfl | (simp; done) | (simp only [← hji43] <;> (first | rfl | simp)) | (simp [*]; done)), H', ⟨by have := HK1.out; have := HK2.out; have := HJ19.out; have := HJ25.out; have := HK5.out; first | omega | exact Nat.le_refl _⟩, ⟨by (with_reducible repeat (first | apply Kd.N_alloc | apply Kd.N_drewN | apply Kd.N_drew)); exact HO_8.out⟩, ⟨zk⟩, ⟨zk⟩, ⟨zb⟩⟩
                          ·rw [if_neg c49] at H
                           exact absurd H (by simp)
                         ·rw [if_neg c48] at H
                          have c48b0 : ((wrap64 (Int.tdiv (wrap64 ((wrap64 (x9_1 * (wrap64 (((rd_T26 l0 2).f1) - ((rd_T26 l0 0).f1))))) - (wrap64 (x10_2 * (wrap64 (((rd_T26 l0 1).f1) - ((rd_T26 l0 0).f1))))))) (wrap64 ((wrap64 ((wrap64 (((rd_T26 l0 1).f0) - ((rd_T26 l0 0).f0))) * (wrap64 (((rd_T26 l0 2).f1) - ((rd_T26 l0 0).f1))))) - (wrap64 ((wrap64 (((rd_T26 l0 1).f1) - ((rd_T26 l0 0).f1))) * (wrap64 (((rd_T26 l0 2).f0) - ((rd_T26 l0 0).f0))))))))) == (rd (rd_L6 x8_2 (ji43)) 0)) = false := beq_eq_false_iff_ne.mpr c48
                          have c48b1 : ((wrap64 (Int.tdiv (wrap64 ((wrap64 (x9_1 * (wrap64 (((rd_T26 l0 2).f1) - ((rd_T26 l0 0).f1))))) - (wrap64 (x10_2 * (wrap64 (((rd_T26 l0 1).f1) - ((rd_T26 l0 0).f1))))))) (wrap64 ((wrap64 ((wrap64 (((rd_T26 l0 1).f0) - ((rd_T26 l0 0).f0))) * (wrap64 (((rd_T26 l0 2).f1) - ((rd_T26 l0 0).f1))))) - (wrap64 ((wrap64 (((rd_T26 l0 1).f1) - ((rd_T26 l0 0).f1))) * (wrap64 (((rd_T26 l0 2).f0) - ((rd_T26 l0 0).f0))))))))) != (rd (rd_L6 x8_2 (ji43)) 0)) = true := bne_iff_ne.mpr c48
                          have H' := Aside0.mk H
                          clear H
                          have p2162 : 0 ≤ ((ji43) : Int) := of_decide_eq_true (by first | (with_reducible assumption) | assumption)
                          have q2162 : (ji43) < (x8_2.length : Int) := of_decide_eq_true (by first | (with_reducible assumption) | assumption)
                          obtain ⟨ad2162, A2162_0, c2162_0, e2162, hx2162_0, hl2162_0, hi2162_0⟩ := at_L6 (Kd.N_reads' HO_8.out).2.2 (ji43) p2162 q2162
                          cases e2162
                          obtain ⟨ce2162, hce2162, hMe2162, hcc2162⟩ := Kd.N_get HO_8.out [] (ji43) p2162 (by first | exact q2162 | exact of_decide_eq_true (by first | (with_reducible assumption) | assumption) | (have e_ := (Kd.N_reads' HO_8.out).1; omega))
                          obtain ⟨ua2162_0, uc2162_0, rfl, ul2162_0, ge2162_0⟩ := Kd.FK_slice_open hMe2162
                          have hv2162_0 := hcc2162 0 _ rfl
                          rw [Nat.add_zero, show ((Kd.slice 3 (Kd.int .i64))).sz = 1 from rfl, Nat.mul_one] at hv2162_0
                          replace hv2162_0 := Option.some.inj (hv2162_0.symm.trans hx2162_0)
                          injection hv2162_0 with hva_ hvn_ hvc_
                          rw [hva_] at ge2162_0
                          rw [hvc_] at ul2162_0
                          have HL2162_0 := Aside0.mk (show Kd.V (Kd.int .i64) 3 _ w.heap.size _ _ (rd_L6 x8_2 (ji43)) from Kd.V_mk ul2162_0 ge2162_0)
                          clear hva_ hvn_ hvc_ ge2162_0 ul2162_0
                          clear hcc2162 hce2162
                          have HR2162_0 := Aside0.mk hi2162_0
                          have HC2162_0 := Aside0.mk hl2162_0
                          clear hi2162_0 hl2162_0
                          replace p2162 := eq_true p2162
                          replace q2162 := eq_true q2162
                          have p2163 : 0 ≤ (0 : Int) := (by omega)
                          have q2163 : 0 < ((rd_L6 x8_2 (ji43)).length : Int) := of_decide_eq_true (by first | (with_reducible assumption) | assumption)
                          obtain ⟨ad2163, e2163, hx2163_0⟩ := Kd.at_int (by repeat (first | (with_reducible exact HR2162_0.out) | (with_reducible refine Kd.C_alloc ?_ _) | (with_reducible refine Kd.C_drewN ?_ _) | (with_reducible refine Kd.C_drew ?_) | exact HR2162_0.out)) 0 p2163 q2163
                          cases e2163
                          have qi2163 : (0 < (rd_L6 x8_2 (ji43)).length) = True := eq_true (by omega)
                          (try rw [show ((0 : Int)).toNat = 0 from rfl] at hx2163_0)
                          (try rw [Addr.add_zero'] at hx2163_0)
                          replace p2163 := eq_true p2163
                          replace q2163 := eq_true q2163
                          have p2164 : 0 ≤ ((ji43) : Int) := of_decide_eq_true (by first | (with_reducible assumption) | assumption)
                          have q2164 : (ji43) < (x8_2.length : Int) := of_decide_eq_true (by first | (with_reducible assumption) | assumption)
                          obtain ⟨ad2164, A2164_0, c2164_0, e2164, hx2164_0, hl2164_0, hi2164_0⟩ := at_L6 (Kd.N_reads' HO_8.out).2.2 (ji43) p2164 q2164
                          obtain rfl : ad2162 = ad2164 := (by injection e2164)
                          obtain ⟨ce2164, hce2164, hMe2164, hcc2164⟩ := Kd.N_get HO_8.out [] (ji43) p2164 (by first | exact q2164 | exact of_decide_eq_true (by first | (with_reducible assumption) | assumption) | (have e_ := (Kd.N_reads' HO_8.out).1; omega))
                          obtain ⟨ua2164_0, uc2164_0, rfl, ul2164_0, ge2164_0⟩ := Kd.FK_slice_open hMe2164
                          have hv2164_0 := hcc2164 0 _ rfl
                          rw [Nat.add_zero, show ((Kd.slice 3 (Kd.int .i64))).sz = 1 from rfl, Nat.mul_one] at hv2164_0
                          replace hv2164_0 := Option.some.inj (hv2164_0.symm.trans hx2164_0)
                          injection hv2164_0 with hva_ hvn_ hvc_
                          rw [hva_] at ge2164_0
                          rw [hvc_] at ul2164_0
                          have HL2164_0 := Aside0.mk (show Kd.V (Kd.int .i64) 3 _ w.heap.size _ _ (rd_L6 x8_2 (ji43)) from Kd.V_mk ul2164_0 ge2164_0)
                          clear hva_ hvn_ hvc_ ge2164_0 ul2164_0
                          clear hcc2164 hce2164
                          have HR2164_0 := Aside0.mk hi2164_0
                          have HC2164_0 := Aside0.mk hl2164_0
                          clear hi2164_0 hl2164_0
                          replace p2164 := eq_true p2164
                          replace q2164 := eq_true q2164
                          have ea_ := Option.some.inj (hx2162_0.symm.trans hx2164_0)
                          injection ea_ with ea_ en_ ec_
                          subst ea_
                          subst ec_
                          clear en_
                          have p2165 : 0 ≤ (0 : Int) := (by omega)
                          have q2165 : 0 < ((rd_L6 x8_2 (ji43)).length : Int) := of_decide_eq_true (by first | (with_reducible assumption) | assumption)
                          obtain ⟨ad2165, e2165, hx2165_0⟩ := Kd.at_int (by repeat (first | (with_reducible exact HR2164_0.out) | (with_reducible refine Kd.C_alloc ?_ _) | (with_reducible refine Kd.C_drewN ?_ _) | (with_reducible refine Kd.C_drew ?_) | exact HR2164_0.out)) 0 p2165 q2165
                          cases e2165
                          have qi2165 : (0 < (rd_L6 x8_2 (ji43)).length) = True := eq_true (by omega)
                          (try rw [show ((0 : Int)).toNat = 0 from rfl] at hx2165_0)
                          (try rw [Addr.add_zero'] at hx2165_0)
                          replace p2165 := eq_true p2165
                          replace q2165 := eq_true q2165
                          go_wp2
                          go_meet
                          case rel => exact ⟨_, (false), (by first | rfl | (simp; done) | (simp [*]; done)), H', ⟨by have := HK1.out; have := HK2.out; have := HJ19.out; have := HJ25.out; have := HK5.out; first | omega | exact Nat.le_refl _⟩, ⟨by (with_reducible repeat (first | apply Kd.N_alloc | apply Kd.N_drewN | apply Kd.N_drew)); exact HO_8.out⟩, ⟨zk⟩, ⟨zk⟩, ⟨zb⟩⟩
                       ·rw [if_neg c46] at H
                        exact absurd H (by simp)
                      ·rw [if_neg c45] at H
                       exact absurd H (by simp)
                     ·rw [if_neg c44] at H
                      exact absurd H (by simp)
                    ·rw [if_neg c42] at H
                     have c42b0 : decide (0 < x15_5) = false := decide_eq_false c42
                     clear c42
                     (first | rw [c42b0] | (simp only [i64_w, i32_w]; rw [c42b0]) | skip)
                     have H' := Aside0.mk H
                     clear H
                     go_wp2
                     go_meet
                     case rel => exact ⟨_, (false), (by first | rfl | (simp; done) | (simp [*]; done)), H', ⟨by have := HK1.out; have := HK2.out; have := HJ19.out; have := HJ25.out; have := HK5.out; first | omega | exact Nat.le_refl _⟩, ⟨by (with_reducible repeat (first | apply Kd.N_alloc | apply Kd.N_drewN | apply Kd.N_drew)); exact HO_8.out⟩, ⟨zk⟩, ⟨zk⟩, ⟨zb⟩⟩
                   case rest =>
                    clear HC41
                    try clear c1
                    try clear c2
                    try clear p2
                    try clear q2
                    try clear hx2
                    try clear qi2
                    try clear c3
                    try clear c4
                    try clear p6
                    try clear c15
                    try clear c18
                    try clear c18b0
                    try clear c19
                    try clear c19b0
                    try clear c21
                    try clear p21
                    try clear q21
                    try clear hx21
                    try clear qi21
                    try clear c22
                    try clear c22b0
                    try clear c22b1
                    try clear c23
                    try clear c23b0
                    try clear c23b1
                    try clear c24
                    try clear c25
                    try clear c25b0
                    try clear c25b1
                    try clear c28
                    try clear c28b0
                    try clear c29
                    try clear c29b0
                    try clear c29b1
                    try clear c30
                    try clear c30b0
                    try clear c32
                    try clear c32b0
                    try clear c32b1
                    try clear c36
                    try clear c36b0
                    try clear c36b1
                    try clear c39
                    try clear c42
                    try clear c42b0
                    try clear c44
                    try clear c44b0
                    try clear c45
                    try clear c45b0
                    try clear c46
                    try clear c46b0
                    try clear c46b1
                    try clear c47
                    try clear c47b0
                    try clear c48
                    try clear c48b0
                    try clear c48b1
                    try clear c49
                    try clear c49b0
                    try clear c49b1
                    try clear hcz16_0
                    try clear hcz16_1
                    try clear hcz17_0
                    try clear hcz17_1
                    try clear hfz16_0
                    try clear hfz16_1
                    try clear hfz17_0
                    try clear hfz17_1
                    try clear hx2148_0
                    try clear hx2148_1
                    try clear hx2149_0
                    try clear hx2149_1
                    try clear hx2150_0
                    try clear hx2150_1
                    try clear hx2151_0
                    try clear hx2151_1
                    try clear hx2153_0
                    try clear hx2153_1
                    try clear hx2154_0
                    try clear hx2154_1
                    try clear hx2155_0
                    try clear hx2155_1
                    try clear hx2156_0
                    try clear hx2156_1
                    try clear hx2162_0
                    try clear hx2163_0
                    try clear hx2164_0
                    try clear hx2165_0
                    try clear hx2166_0
                    try clear hx2167_0
                    try clear p2
                    try clear p21
                    try clear p2148
                    try clear p2149
                    try clear p2150
                    try clear p2151
                    try clear p2153
                    try clear p2154
                    try clear p2155
                    try clear p2156
                    try clear p2162
                    try clear p2163
                    try clear p2164
                    try clear p2165
                    try clear p2166
                    try clear p2167
                    try clear p6
                    try clear q2
                    try clear q21
                    try clear q2148
                    try clear q2149
                    try clear q2150
                    try clear q2151
                    try clear q2153
                    try clear q2154
                    try clear q2155
                    try clear q2156
                    try clear q2162
                    try clear q2163
                    try clear q2164
                    try clear q2165
                    try clear q2166
                    try clear q2167
                    obtain ⟨kq, x174_40, rfl, HA, HJ40, HO_8, BK2152, BK2157, HB⟩ := hcut
                    cases kq with
                    | zero => exact absurd HA.out (by simp [spec_wiAll.j5])
                    | succ kj40 =>
                     have H := HA.out
                     clear HA
                     simp only [spec_wiAll.j5] at H
                     by_cases c50 : x174_40 = true
                     ·subst c50
                      have H1 : (spec_wiAll.l2 kj40 l0 a1 (wrap64 ((wrap64 ((wrap64 (((rd_T26 l0 1).f0) - ((rd_T26 l0 0).f0))) * (wrap64 (((rd_T26 l0 2).f1) - ((rd_T26 l0 0).f1))))) - (wrap64 ((wrap64 (((rd_T26 l0 1).f1) - ((rd_T26 l0 0).f1))) * (wrap64 (((rd_T26 l0 2).f0) - ((rd_T26 l0 0).f0))))))) x8_2 x9_1 x10_2 (wrap64 (Int.tdiv (wrap64 ((wrap64 (x9_1 * (wrap64 (((rd_T26 l0 2).f1) - ((rd_T26 l0 0).f1))))) - (wrap64 (x10_2 * (wrap64 (((rd_T26 l0 1).f1) - ((rd_T26 l0 0).f1))))))) (wrap64 ((wrap64 ((wrap64 (((rd_T26 l0 1).f0) - ((rd_T26 l0 0).f0))) * (wrap64 (((rd_T26 l0 2).f1) - ((rd_T26 l0 0).f1))))) - (wrap64 ((wrap64 (((rd_T26 l0 1).f1) - ((rd_T26 l0 0).f1))) * (wrap64 (((rd_T26 l0 2).f0) - ((rd_T26 l0 0).f0))))))))) (wrap64 (Int.tdiv (wrap64 ((wrap64 (x10_2 * (wrap64 (((rd_T26 l0 1).f0) - ((rd_T26 l0 0).f0))))) - (wrap64 (x9_1 * (wrap64 (((rd_T26 l0 2).f0) - ((rd_T26 l0 0).f0))))))) (wrap64 ((wrap64 ((wrap64 (((rd_T26 l0 1).f0) - ((rd_T26 l0 0).f0))) * (wrap64 (((rd_T26 l0 2).f1) - ((rd_T26 l0 0).f1))))) - (wrap64 ((wrap64 (((rd_T26 l0 1).f1) - ((rd_T26 l0 0).f1))) * (wrap64 (((rd_T26 l0 2).f0) - ((rd_T26 l0 0).f0))))))))) (wrap64 (x15_5 - 1)) (wrap64 (((rd_T26 l0 1).f0) - ((rd_T26 l0 0).f0))) (wrap64 (((rd_T26 l0 1).f1) - ((rd_T26 l0 0).f1))) (wrap64 (((rd_T26 l0 2).f0) - ((rd_T26 l0 0).f0))) (wrap64 (((rd_T26 l0 2).f1) - ((rd_T26 l0 0).f1)))) = some r := by rw [if_pos rfl] at H; exact H
                      clear H
                      have H := H1
                      clear H1
                      have H' := Aside0.mk H
                      clear H
                      go_wp2
                      go_roundg kj40
                      case measure => have := HK1.out; have := HK2.out; have := HJ19.out; have := HJ25.out; have := HK5.out; have := HJ40.out; omega
                      case rel => exact ⟨(wrap64 (x15_5 - 1)), (by first | rfl | (simp; done) | (simp [*]; done)), H', ⟨by have := HK1.out; have := HK2.out; have := HJ19.out; have := HJ25.out; have := HK5.out; have := HJ40.out; omega⟩, ⟨by (with_reducible repeat (first | apply Kd.N_alloc | apply Kd.N_drewN | apply Kd.N_drew)); exact HO_8.out⟩, ⟨zk⟩, ⟨zk⟩, ⟨zb⟩⟩
                     ·replace c50 := Bool.eq_false_iff.mpr c50
                      subst c50
                      have H1 : ((some (([] : List (List Int)) : List (List Int))).bind fun y2168 => (if 0 ≤ x15_5 then (if x15_5 ≤ (x8_2.length : Int) then ((some (x8_2.take (x15_5 : Int).toNat : List (List Int))).bind fun y2171 => (if y2168.length + y2171.length < 5864062014805 then ((some (y2168 ++ y2171 : List (List Int))).bind fun y2176 => (if y2176.length < 5864062014805 then ((some (y2176 ++ [(([(wrap64 (Int.tdiv (wrap64 ((wrap64 (x9_1 * (wrap64 (((rd_T26 l0 2).f1) - ((rd_T26 l0 0).f1))))) - (wrap64 (x10_2 * (wrap64 (((rd_T26 l0 1).f1) - ((rd_T26 l0 0).f1))))))) (wrap64 ((wrap64 ((wrap64 (((rd_T26 l0 1).f0) - ((rd_T26 l0 0).f0))) * (wrap64 (((rd_T26 l0 2).f1) - ((rd_T26 l0 0).f1))))) - (wrap64 ((wrap64 (((rd_T26 l0 1).f1) - ((rd_T26 l0 0).f1))) * (wrap64 (((rd_T26 l0 2).f0) - ((rd_T26 l0 0).f0))))))))), (wrap64 (Int.tdiv (wrap64 ((wrap64 (x10_2 * (wrap64 (((rd_T26 l0 1).f0) - ((rd_T26 l0 0).f0))))) - (wrap64 (x9_1 * (wrap64 (((rd_T26 l0 2).f0) - ((rd_T26 l0 0).f0))))))) (wrap64 ((wrap64 ((wrap64 (((rd_T26 l0 1).f0) - ((rd_T26 l0 0).f0))) * (wrap64 (((rd_T26 l0 2).f1) - ((rd_T26 l0 0).f1))))) - (wrap64 ((wrap64 (((rd_T26 l0 1).f1) - ((rd_T26 l0 0).f1))) * (wrap64 (((rd_T26 l0 2).f0) - ((rd_T26 l0 0).f0)))))))))] : List Int))] : List (List Int))).bind fun y2182 => ((some (x8_2.drop (x15_5 : Int).toNat : List (List Int))).bind fun y2185 => (if y2182.length + y2185.length < 5864062014805 then (spec_wiAll.l1 kj40 l0 a1 (wrap64 ((wrap64 ((wrap64 (((rd_T26 l0 1).f0) - ((rd_T26 l0 0).f0))) * (wrap64 (((rd_T26 l0 2).f1) - ((rd_T26 l0 0).f1))))) - (wrap64 ((wrap64 (((rd_T26 l0 1).f1) - ((rd_T26 l0 0).f1))) * (wrap64 (((rd_T26 l0 2).f0) - ((rd_T26 l0 0).f0))))))) (y2182 ++ y2185) x9_1 (wrap64 (x10_2 + 1)) (wrap64 (((rd_T26 l0 1).f0) - ((rd_T26 l0 0).f0))) (wrap64 (((rd_T26 l0 1).f1) - ((rd_T26 l0 0).f1))) (wrap64 (((rd_T26 l0 2).f0) - ((rd_T26 l0 0).f0))) (wrap64 (((rd_T26 l0 2).f1) - ((rd_T26 l0 0).f1)))) else (none)))) else (none))) else (none))) else (none)) else (none))) = some r := by rw [if_neg (show ¬ (false = true) by decide)] at H; exact H
                      clear H
                      have H := H1
                      clear H1
                      obtain ⟨y2168, hy2168⟩ : ∃ y_ : List (List Int), y_ = (([] : List (List Int))) := ⟨_, rfl⟩
                      replace H : (if 0 ≤ x15_5 then (if x15_5 ≤ (x8_2.length : Int) then ((some (x8_2.take (x15_5 : Int).toNat : List (List Int))).bind fun y2171 => (if y2168.length + y2171.length < 5864062014805 then ((some (y2168 ++ y2171 : List (List Int))).bind fun y2176 => (if y2176.length < 5864062014805 then ((some (y2176 ++ [(([(wrap64 (Int.tdiv (wrap64 ((wrap64 (x9_1 * (wrap64 (((rd_T26 l0 2).f1) - ((rd_T26 l0 0).f1))))) - (wrap64 (x10_2 * (wrap64 (((rd_T26 l0 1).f1) - ((rd_T26 l0 0).f1))))))) (wrap64 ((wrap64 ((wrap64 (((rd_T26 l0 1).f0) - ((rd_T26 l0 0).f0))) * (wrap64 (((rd_T26 l0 2).f1) - ((rd_T26 l0 0).f1))))) - (wrap64 ((wrap64 (((rd_T26 l0 1).f1) - ((rd_T26 l0 0).f1))) * (wrap64 (((rd_T26 l0 2).f0) - ((rd_T26 l0 0).f0))))))))), (wrap64 (Int.tdiv (wrap64 ((wrap64 (x10_2 * (wrap64 (((rd_T26 l0 1).f0) - ((rd_T26 l0 0).f0))))) - (wrap64 (x9_1 * (wrap64 (((rd_T26 l0 2).f0) - ((rd_T26 l0 0).f0))))))) (wrap64 ((wrap64 ((wrap64 (((rd_T26 l0 1).f0) - ((rd_T26 l0 0).f0))) * (wrap64 (((rd_T26 l0 2).f1) - ((rd_T26 l0 0).f1))))) - (wrap64 ((wrap64 (((rd_T26 l0 1).f1) - ((rd_T26 l0 0).f1))) * (wrap64 (((rd_T26 l0 2).f0) - ((rd_T26 l0 0).f0)))))))))] : List Int))] : List (List Int))).bind fun y2182 => ((some (x8_2.drop (x15_5 : Int).toNat : List (List Int))).bind fun y2185 => (if y2182.length + y2185.length < 5864062014805 then (spec_wiAll.l1 kj40 l0 a1 (wrap64 ((wrap64 ((wrap64 (((rd_T26 l0 1).f0) - ((rd_T26 l0 0).f0))) * (wrap64 (((rd_T26 l0 2).f1) - ((rd_T26 l0 0).f1))))) - (wrap64 ((wrap64 (((rd_T26 l0 1).f1) - ((rd_T26 l0 0).f1))) * (wrap64 (((rd_T26 l0 2).f0) - ((rd_T26 l0 0).f0))))))) (y2182 ++ y2185) x9_1 (wrap64 (x10_2 + 1)) (wrap64 (((rd_T26 l0 1).f0) - ((rd_T26 l0 0).f0))) (wrap64 (((rd_T26 l0 1).f1) - ((rd_T26 l0 0).f1))) (wrap64 (((rd_T26 l0 2).f0) - ((rd_T26 l0 0).f0))) (wrap64 (((rd_T26 l0 2).f1) - ((rd_T26 l0 0).f1)))) else (none)))) else (none))) else (none))) else (none)) else (none)) = some r := by first | (rw [hy2168]; with_reducible exact H) | (have H2_ := (Option.bind_some _ _).symm.trans H; rw [hy2168]; with_reducible exact H2_) | (have H2_ := (Option.bind_some _ _).symm.trans H; with_reducible exact H2_) | with_reducible exact H | (rw [hy2168]; exact H) | exact H
                      have Ny2168 := Aside0.mk hy2168
                      clear hy2168
                      by_cases c51 : 0 ≤ x15_5
                      ·rw [if_pos c51] at H
                       have c51b0 := eq_true c51
                       have c51b1 : decide (0 ≤ x15_5) = true := decide_eq_true c51
                       clear c51
                       by_cases c52 : x15_5 ≤ (x8_2.length : Int)
                       ·rw [if_pos c52] at H
                        have c52b0 := eq_true c52
                        have c52b1 : decide (x15_5 ≤ (x8_2.length : Int)) = true := decide_eq_true c52
                        clear c52
                        obtain ⟨y2171, hy2171⟩ : ∃ y_ : List (List Int), y_ = (x8_2.take (x15_5 : Int).toNat) := ⟨_, rfl⟩
                        replace H : (if y2168.length + y2171.length < 5864062014805 then ((some (y2168 ++ y2171 : List (List Int))).bind fun y2176 => (if y2176.length < 5864062014805 then ((some (y2176 ++ [(([(wrap64 (Int.tdiv (wrap64 ((wrap64 (x9_1 * (wrap64 (((rd_T26 l0 2).f1) - ((rd_T26 l0 0).f1))))) - (wrap64 (x10_2 * (wrap64 (((rd_T26 l0 1).f1) - ((rd_T26 l0 0).f1))))))) (wrap64 ((wrap64 ((wrap64 (((rd_T26 l0 1).f0) - ((rd_T26 l0 0).f0))) * (wrap64 (((rd_T26 l0 2).f1) - ((rd_T26 l0 0).f1))))) - (wrap64 ((wrap64 (((rd_T26 l0 1).f1) - ((rd_T26 l0 0).f1))) * (wrap64 (((rd_T26 l0 2).f0) - ((rd_T26 l0 0).f0))))))))), (wrap64 (Int.tdiv (wrap64 ((wrap64 (x10_2 * (wrap64 (((rd_T26 l0 1).f0) - ((rd_T26 l0 0).f0))))) - (wrap64 (x9_1 * (wrap64 (((rd_T26 l0 2).f0) - ((rd_T26 l0 0).f0))))))) (wrap64 ((wrap64 ((wrap64 (((rd_T26 l0 1).f0) - ((rd_T26 l0 0).f0))) * (wrap64 (((rd_T26 l0 2).f1) - ((rd_T26 l0 0).f1))))) - (wrap64 ((wrap64 (((rd_T26 l0 1).f1) - ((rd_T26 l0 0).f1))) * (wrap64 (((rd_T26 l0 2).f0) - ((rd_T26 l0 0).f0)))))))))] : List Int))] : List (List Int))).bind fun y2182 => ((some (x8_2.drop (x15_5 : Int).toNat : List (List Int))).bind fun y2185 => (if y2182.length + y2185.length < 5864062014805 then (spec_wiAll.l1 kj40 l0 a1 (wrap64 ((wrap64 ((wrap64 (((rd_T26 l0 1).f0) - ((rd_T26 l0 0).f0))) * (wrap64 (((rd_T26 l0 2).f1) - ((rd_T26 l0 0).f1))))) - (wrap64 ((wrap64 (((rd_T26 l0 1).f1) - ((rd_T26 l0 0).f1))) * (wrap64 (((rd_T26 l0 2).f0) - ((rd_T26 l0 0).f0))))))) (y2182 ++ y2185) x9_1 (wrap64 (x10_2 + 1)) (wrap64 (((rd_T26 l0 1).f0) - ((rd_T26 l0 0).f0))) (wrap64 (((rd_T26 l0 1).f1) - ((rd_T26 l0 0).f1))) (wrap64 (((rd_T26 l0 2).f0) - ((rd_T26 l0 0).f0))) (wrap64 (((rd_T26 l0 2).f1) - ((rd_T26 l0 0).f1)))) else (none)))) else (none))) else (none)) = some r := by first | (rw [hy2171]; with_reducible exact H) | (have H2_ := (Option.bind_some _ _).symm.trans H; rw [hy2171]; with_reducible exact H2_) | (have H2_ := (Option.bind_some _ _).symm.trans H; with_reducible exact H2_) | with_reducible exact H | (rw [hy2171]; exact H) | exact H
                        have Ny2171 := Aside0.mk hy2171
                        clear hy2171
                        by_cases c53 : y2168.length + y2171.length < 5864062014805
                        ·rw [if_pos c53] at H
                         have LMc53 := Aside0.mk c53
                         clear c53
                         obtain ⟨y2176, hy2176⟩ : ∃ y_ : List (List Int), y_ = (y2168 ++ y2171) := ⟨_, rfl⟩
                         replace H : (if y2176.length < 5864062014805 then ((some (y2176 ++ [(([(wrap64 (Int.tdiv (wrap64 ((wrap64 (x9_1 * (wrap64 (((rd_T26 l0 2).f1) - ((rd_T26 l0 0).f1))))) - (wrap64 (x10_2 * (wrap64 (((rd_T26 l0 1).f1) - ((rd_T26 l0 0).f1))))))) (wrap64 ((wrap64 ((wrap64 (((rd_T26 l0 1).f0) - ((rd_T26 l0 0).f0))) * (wrap64 (((rd_T26 l0 2).f1) - ((rd_T26 l0 0).f1))))) - (wrap64 ((wrap64 (((rd_T26 l0 1).f1) - ((rd_T26 l0 0).f1))) * (wrap64 (((rd_T26 l0 2).f0) - ((rd_T26 l0 0).f0))))))))), (wrap64 (Int.tdiv (wrap64 ((wrap64 (x10_2 * (wrap64 (((rd_T26 l0 1).f0) - ((rd_T26 l0 0).f0))))) - (wrap64 (x9_1 * (wrap64 (((rd_T26 l0 2).f0) - ((rd_T26 l0 0).f0))))))) (wrap64 ((wrap64 ((wrap64 (((rd_T26 l0 1).f0) - ((rd_T26 l0 0).f0))) * (wrap64 (((rd_T26 l0 2).f1) - ((rd_T26 l0 0).f1))))) - (wrap64 ((wrap64 (((rd_T26 l0 1).f1) - ((rd_T26 l0 0).f1))) * (wrap64 (((rd_T26 l0 2).f0) - ((rd_T26 l0 0).f0)))))))))] : List Int))] : List (List Int))).bind fun y2182 => ((some (x8_2.drop (x15_5 : Int).toNat : List (List Int))).bind fun y2185 => (if y2182.length + y2185.length < 5864062014805 then (spec_wiAll.l1 kj40 l0 a1 (wrap64 ((wrap64 ((wrap64 (((rd_T26 l0 1).f0) - ((rd_T26 l0 0).f0))) * (wrap64 (((rd_T26 l0 2).f1) - ((rd_T26 l0 0).f1))))) - (wrap64 ((wrap64 (((rd_T26 l0 1).f1) - ((rd_T26 l0 0).f1))) * (wrap64 (((rd_T26 l0 2).f0) - ((rd_T26 l0 0).f0))))))) (y2182 ++ y2185) x9_1 (wrap64 (x10_2 + 1)) (wrap64 (((rd_T26 l0 1).f0) - ((rd_T26 l0 0).f0))) (wrap64 (((rd_T26 l0 1).f1) - ((rd_T26 l0 0).f1))) (wrap64 (((rd_T26 l0 2).f0) - ((rd_T26 l0 0).f0))) (wrap64 (((rd_T26 l0 2).f1) - ((rd_T26 l0 0).f1)))) else (none)))) else (none)) = some r := by first | (rw [hy2176]; with_reducible exact H) | (have H2_ := (Option.bind_some _ _).symm.trans H; rw [hy2176]; with_reducible exact H2_) | (have H2_ := (Option.bind_some _ _).symm.trans H; with_reducible exact H2_) | with_reducible exact H | (rw [hy2176]; exact H) | exact H
                         have Ny2176 := Aside0.mk hy2176
                         clear hy2176
                         obtain ⟨y2179, hy2179⟩ : ∃ y_ : List Int, y_ = (([(wrap64 (Int.tdiv (wrap64 ((wrap64 (x9_1 * (wrap64 (((rd_T26 l0 2).f1) - ((rd_T26 l0 0).f1))))) - (wrap64 (x10_2 * (wrap64 (((rd_T26 l0 1).f1) - ((rd_T26 l0 0).f1))))))) (wrap64 ((wrap64 ((wrap64 (((rd_T26 l0 1).f0) - ((rd_T26 l0 0).f0))) * (wrap64 (((rd_T26 l0 2).f1) - ((rd_T26 l0 0).f1))))) - (wrap64 ((wrap64 (((rd_T26 l0 1).f1) - ((rd_T26 l0 0).f1))) * (wrap64 (((rd_T26 l0 2).f0) - ((rd_T26 l0 0).f0))))))))), (wrap64 (Int.tdiv (wrap64 ((wrap64 (x10_2 * (wrap64 (((rd_T26 l0 1).f0) - ((rd_T26 l0 0).f0))))) - (wrap64 (x9_1 * (wrap64 (((rd_T26 l0 2).f0) - ((rd_T26 l0 0).f0))))))) (wrap64 ((wrap64 ((wrap64 (((rd_T26 l0 1).f0) - ((rd_T26 l0 0).f0))) * (wrap64 (((rd_T26 l0 2).f1) - ((rd_T26 l0 0).f1))))) - (wrap64 ((wrap64 (((rd_T26 l0 1).f1) - ((rd_T26 l0 0).f1))) * (wrap64 (((rd_T26 l0 2).f0) - ((rd_T26 l0 0).f0)))))))))] : List Int)) := ⟨_, rfl⟩
                         replace H : (if y2176.length < 5864062014805 then ((some (y2176 ++ [y2179] : List (List Int))).bind fun y2182 => ((some (x8_2.drop (x15_5 : Int).toNat : List (List Int))).bind fun y2185 => (if y2182.length + y2185.length < 5864062014805 then (spec_wiAll.l1 kj40 l0 a1 (wrap64 ((wrap64 ((wrap64 (((rd_T26 l0 1).f0) - ((rd_T26 l0 0).f0))) * (wrap64 (((rd_T26 l0 2).f1) - ((rd_T26 l0 0).f1))))) - (wrap64 ((wrap64 (((rd_T26 l0 1).f1) - ((rd_T26 l0 0).f1))) * (wrap64 (((rd_T26 l0 2).f0) - ((rd_T26 l0 0).f0))))))) (y2182 ++ y2185) x9_1 (wrap64 (x10_2 + 1)) (wrap64 (((rd_T26 l0 1).f0) - ((rd_T26 l0 0).f0))) (wrap64 (((rd_T26 l0 1).f1) - ((rd_T26 l0 0).f1))) (wrap64 (((rd_T26 l0 2).f0) - ((rd_T26 l0 0).f0))) (wrap64 (((rd_T26 l0 2).f1) - ((rd_T26 l0 0).f1)))) else (none)))) else (none)) = some r := by first | (rw [hy2179]; with_reducible exact H) | (have H2_ := (Option.bind_some _ _).symm.trans H; rw [hy2179]; with_reducible exact H2_) | (have H2_ := (Option.bind_some _ _).symm.trans H; with_reducible exact H2_) | with_reducible exact H | (rw [hy2179]; exact H) | exact H
                         have Ny2179 := Aside0.mk hy2179
                         clear hy2179
                         by_cases c54 : y2176.length < 5864062014805
                         ·rw [if_pos c54] at H
                          have LMc54 := Aside0.mk c54
                          clear c54
                          obtain ⟨y2182, hy2182⟩ : ∃ y_ : List (List Int), y_ = (y2176 ++ [y2179]) := ⟨_, rfl⟩
                          replace H : ((some (x8_2.drop (x15_5 : Int).toNat : List (List Int))).bind fun y2185 => (if y2182.length + y2185.length < 5864062014805 then (spec_wiAll.l1 kj40 l0 a1 (wrap64 ((wrap64 ((wrap64 (((rd_T26 l0 1).f0) - ((rd_T26 l0 0).f0))) * (wrap64 (((rd_T26 l0 2).f1) - ((rd_T26 l0 0).f1))))) - (wrap64 ((wrap64 (((rd_T26 l0 1).f1) - ((rd_T26 l0 0).f1))) * (wrap64 (((rd_T26 l0 2).f0) - ((rd_T26 l0 0).f0))))))) (y2182 ++ y2185) x9_1 (wrap64 (x10_2 + 1)) (wrap64 (((rd_T26 l0 1).f0) - ((rd_T26 l0 0).f0))) (wrap64 (((rd_T26 l0 1).f1) - ((rd_T26 l0 0).f1))) (wrap64 (((rd_T26 l0 2).f0) - ((rd_T26 l0 0).f0))) (wrap64 (((rd_T26 l0 2).f1) - ((rd_T26 l0 0).f1)))) else (none))) = some r := by first | (rw [hy2182]; with_reducible exact H) | (have H2_ := (Option.bind_some _ _).symm.trans H; rw [hy2182]; with_reducible exact H2_) | (have H2_ := (Option.bind_some _ _).symm.trans H; with_reducible exact H2_) | with_reducible exact H | (rw [hy2182]; exact H) | exact H
                          have Ny2182 := Aside0.mk hy2182
                          clear hy2182
                          have c55b0 := eq_true (of_decide_eq_true (by first | (with_reducible assumption) | assumption) : 0 ≤ x15_5)
                          have c56b0 := eq_true (of_decide_eq_true (by first | (with_reducible assumption) | assumption) : x15_5 ≤ (x8_2.length : Int))
                          obtain ⟨y2185, hy2185⟩ : ∃ y_ : List (List Int), y_ = (x8_2.drop (x15_5 : Int).toNat) := ⟨_, rfl⟩
                          replace H : (if y2182.length + y2185.length < 5864062014805 then (spec_wiAll.l1 kj40 l0 a1 (wrap64 ((wrap64 ((wrap64 (((rd_T26 l0 1).f0) - ((rd_T26 l0 0).f0))) * (wrap64 (((rd_T26 l0 2).f1) - ((rd_T26 l0 0).f1))))) - (wrap64 ((wrap64 (((rd_T26 l0 1).f1) - ((rd_T26 l0 0).f1))) * (wrap64 (((rd_T26 l0 2).f0) - ((rd_T26 l0 0).f0))))))) (y2182 ++ y2185) x9_1 (wrap64 (x10_2 + 1)) (wrap64 (((rd_T26 l0 1).f0) - ((rd_T26 l0 0).f0))) (wrap64 (((rd_T26 l0 1).f1) - ((rd_T26 l0 0).f1))) (wrap64 (((rd_T26 l0 2).f0) - ((rd_T26 l0 0).f0))) (wrap64 (((rd_T26 l0 2).f1) - ((rd_T26 l0 0).f1)))) else (none)) = some r := by first | (rw [hy2185]; with_reducible exact H) | (have H2_ := (Option.bind_some _ _).symm.trans H; rw [hy2185]; with_reducible exact H2_) | (have H2_ := (Option.bind_some _ _).symm.trans H; with_reducible exact H2_) | with_reducible exact H | (rw [hy2185]; exact H) | exact H
                          have Ny2185 := Aside0.mk hy2185
                          clear hy2185
                          by_cases c57 : y2182.length + y2185.length < 5864062014805
                          ·rw [if_pos c57] at H
                           have LMc57 := Aside0.mk c57
                           clear c57
                           obtain ⟨y2190, hy2190⟩ : ∃ y_ : List (List Int), y_ = (y2182 ++ y2185) := ⟨_, rfl⟩
                           replace H : (spec_wiAll.l1 kj40 l0 a1 (wrap64 ((wrap64 ((wrap64 (((rd_T26 l0 1).f0) - ((rd_T26 l0 0).f0))) * (wrap64 (((rd_T26 l0 2).f1) - ((rd_T26 l0 0).f1))))) - (wrap64 ((wrap64 (((rd_T26 l0 1).f1) - ((rd_T26 l0 0).f1))) * (wrap64 (((rd_T26 l0 2).f0) - ((rd_T26 l0 0).f0))))))) y2190 x9_1 (wrap64 (x10_2 + 1)) (wrap64 (((rd_T26 l0 1).f0) - ((rd_T26 l0 0).f0))) (wrap64 (((rd_T26 l0 1).f1) - ((rd_T26 l0 0).f1))) (wrap64 (((rd_T26 l0 2).f0) - ((rd_T26 l0 0).f0))) (wrap64 (((rd_T26 l0 2).f1) - ((rd_T26 l0 0).f1)))) = some r := by first | (rw [hy2190]; with_reducible exact H) | (have H2_ := (Option.bind_some _ _).symm.trans H; rw [hy2190]; with_reducible exact H2_) | (have H2_ := (Option.bind_some _ _).symm.trans H; with_reducible exact H2_) | with_reducible exact H | (rw [hy2190]; exact H) | exact H
                           have Ny2190 := Aside0.mk hy2190
                           clear hy2190
                           have H' := Aside0.mk H
                           clear H
                           go_wp2_with (first | ((with_reducible refine gate_dst (N := 177) rfl ?_); refine Kd.N_lit (Kd.slice 3 (Kd.int .i64)) _ 29 ?hg (N' := 177) ?hd (xs := ([] : List (List Int))) (inner := []) (ok := (fun k_ => (w.heap.size ≤ k_) ∧ some k_ ≠ (.slice Ao40 x8_2.length co40 : Value).ownBlock ∧ k_ ≠ gb2152 ∧ k_ ≠ gb2157)) (okp := (fun k_ => (w.heap.size ≤ k_) ∧ some k_ ≠ (.slice Ao40 x8_2.length co40 : Value).ownBlock ∧ k_ ≠ gb2152 ∧ k_ ≠ gb2157)) ?hr ?hp (fun _ hk => hk) ((show ∀ k_, wc.heap.size ≤ k_ → (fun k_ => (w.heap.size ≤ k_) ∧ some k_ ≠ (.slice Ao40 x8_2.length co40 : Value).ownBlock ∧ k_ ≠ gb2152 ∧ k_ ≠ gb2157) k_ from fun k_ hk => ⟨(Nat.le_trans (below_size zb) hk), Kd.fresh' (Kd.N_lt (by (with_reducible repeat (first | apply Kd.N_alloc | apply Kd.N_drewN | apply Kd.N_drew)); exact HO_8.out)) k_ hk, Kd.freshB (g := gb2152) (o := .cells #[.int .i64 (wrap64 (((rd_T26 l0 1).f0) - ((rd_T26 l0 0).f0))), .int .i64 (wrap64 (((rd_T26 l0 1).f1) - ((rd_T26 l0 0).f1)))] 26 (0, 0)) zk k_ hk, Kd.freshB (g := gb2157) (o := .cells #[.int .i64 (wrap64 (((rd_T26 l0 2).f0) - ((rd_T26 l0 0).f0))), .int .i64 (wrap64 (((rd_T26 l0 2).f1) - ((rd_T26 l0 0).f1)))] 26 (0, 0)) zk k_ hk⟩) _ (Nat.le_refl _)) (Below.refl _ _) (Nat.le_refl _) (by simp) ?_; (case hd => rfl); (case hg => rfl); (case hr => first | (go_simp; done) | (go_simp; rfl)); (case hp => exact (Reps.none _ _)); intro v2169 w58 ho59 hb hg_ hnew_; clear hg_ hnew_; (first | rw [← Ny2168.out] at ho59 | (simp only [Int.reduceToNat] at ho59; rw [← Ny2168.out] at ho59)); have n0_ := Aside0.mk (Kd.N_elder' (by (with_reducible repeat (first | apply Kd.N_alloc | apply Kd.N_drewN | apply Kd.N_drew)); exact HO_8.out) (Kd.N_base ho59) hb); have n1_ := Aside0.mk (Kd.N_lower ho59 (below_size zb)); have n2_ := Aside0.mk (blk_below (g := gb2152) (o := .cells #[.int .i64 (wrap64 (((rd_T26 l0 1).f0) - ((rd_T26 l0 0).f0))), .int .i64 (wrap64 (((rd_T26 l0 1).f1) - ((rd_T26 l0 0).f1)))] 26 (0, 0)) zk hb); have n3_ := Aside0.mk (blk_below (g := gb2157) (o := .cells #[.int .i64 (wrap64 (((rd_T26 l0 2).f0) - ((rd_T26 l0 0).f0))), .int .i64 (wrap64 (((rd_T26 l0 2).f1) - ((rd_T26 l0 0).f1)))] 26 (0, 0)) zk hb); have n4_ := Aside0.mk (below_step zb hb); clear HO_8; clear BK2152; clear BK2157; clear HB; have HO_8 := n0_; have HO2170 := n1_; have BK2152 := n2_; have BK2157 := n3_; have HB := n4_; clear n0_ n1_ n2_ n3_ n4_; clear hb ho59; have q60 : (x15_5 : Int) ≤ ((x8_2.length : Int) : Int) := of_decide_eq_true (by first | (with_reducible assumption) | assumption); obtain ⟨i060, hi060, _, hsz60, _⟩ := info_parts info29; have hroom60 : x8_2.length ≤ co40 := (Kd.N_reads' HO_8.out).2.1; have hC60 : Kd.F (Kd.slice 3 (Kd.int .i64)) _ _ Ao40 x8_2.length x8_2 := (Kd.V_at (base := w.heap.size) (Kd.N_V HO_8.out)).2.2; have hcut60 := cut_to (P := Try.prog) 83 29 .i64 Try.underlying83 hi060 Ao40 x8_2.length co40 x15_5 (of_decide_eq_true (by first | (with_reducible assumption) | assumption)) q60 hroom60; have hr60 := Kd.F_take (m := (x15_5 : Int).toNat) hC60 (by omega); have hy60 : y2171.length = (x15_5 : Int).toNat := (by rw [Ny2171.out, List.length_take]; omega); rw [← Ny2171.out] at hr60; rw [← hy60] at hcut60; have HO2175 := Aside0.mk (show Kd.V (Kd.slice 3 (Kd.int .i64)) 29 _ w.heap.size _ (.slice Ao40 y2171.length co40) y2171 from Kd.V_mk (by omega) hr60); have HC2175 := Aside0.mk (show y2171.length ≤ co40 from by omega); clear hr60 hC60 hroom60 hi060 hsz60; have KY60 := Aside0.mk hy60; clear hy60; replace q60 := eq_true q60) | ((with_reducible refine gate_builtin (b := .append) (xs := #[.tmp 177, .tmp 180]) rfl ?_); at_builtin; refine Kd.N_append_rows (Kd.slice 3 (Kd.int .i64)) (w0 := w) w.heap.size rfl (.tmp 177) (.tmp 180) 83 29 (.slice none 0 0) 24 rfl Try.underlying83 info29 rfl (by decide) (by omega) v2169 y2168 y2171 _ _ _ (fun k_ => (w.heap.size ≤ k_) ∧ k_ ≠ gb2152 ∧ k_ ≠ gb2157) (fun k_ => ((fun k_ => (w.heap.size ≤ k_) ∧ k_ ≠ gb2152 ∧ k_ ≠ gb2157)) k_ ∧ some k_ ≠ (v2169 : Value).ownBlock) rfl rfl ?aO ?aR (fun _ hk => hk) ?aF ?aB ?aS ?aL ?_; (case aR => exact (by skip; exact Kd.V_F (Kd.V_mono (ok' := (fun k_ => ((fun k_ => (w.heap.size ≤ k_) ∧ k_ ≠ gb2152 ∧ k_ ≠ gb2157)) k_ ∧ some k_ ≠ (v2169 : Value).ownBlock)) (HO2175.out) (fun k_ hk => ⟨⟨hk.1.1, ⟨hk.1.2.1, hk.1.2.2⟩⟩, hk.2⟩)))); (case aB => exact zb); (case aF => exact (fun k_ hk => ⟨(Nat.le_trans (below_size zb) hk), Kd.freshB (g := gb2152) (o := .cells #[.int .i64 (wrap64 (((rd_T26 l0 1).f0) - ((rd_T26 l0 0).f0))), .int .i64 (wrap64 (((rd_T26 l0 1).f1) - ((rd_T26 l0 0).f1)))] 26 (0, 0)) zk k_ hk, Kd.freshB (g := gb2157) (o := .cells #[.int .i64 (wrap64 (((rd_T26 l0 2).f0) - ((rd_T26 l0 0).f0))), .int .i64 (wrap64 (((rd_T26 l0 2).f1) - ((rd_T26 l0 0).f1)))] 26 (0, 0)) zk k_ hk⟩)); (case aO => exact (by (with_reducible repeat (first | apply Kd.N_alloc | apply Kd.N_drewN | apply Kd.N_drew)); exact Kd.N_mono HO2170.out (fun _ hk => ⟨hk.1, ⟨hk.2.2.1, hk.2.2.2⟩⟩))); (case aS => exact (below_size zb)); (case aL => have := LMc53.out; omega); intro v2177 w61 ho hb hg hat; rw [← Ny2176.out] at ho; have n0_ := Aside0.mk (Kd.N_afterv (ok := (fun k_ => (w.heap.size ≤ k_) ∧ k_ ≠ gb2152 ∧ k_ ≠ gb2157)) (by (with_reducible repeat (first | apply Kd.N_alloc | apply Kd.N_drewN | apply Kd.N_drew)); exact HO_8.out) hg hat); have n1_ := Aside0.mk (blk_grown (g := gb2152) (o := .cells #[.int .i64 (wrap64 (((rd_T26 l0 1).f0) - ((rd_T26 l0 0).f0))), .int .i64 (wrap64 (((rd_T26 l0 1).f1) - ((rd_T26 l0 0).f1)))] 26 (0, 0)) zk hg (Kd.N_ne HO2170.out BK2152.out (by decide))); have n2_ := Aside0.mk (blk_grown (g := gb2157) (o := .cells #[.int .i64 (wrap64 (((rd_T26 l0 2).f0) - ((rd_T26 l0 0).f0))), .int .i64 (wrap64 (((rd_T26 l0 2).f1) - ((rd_T26 l0 0).f1)))] 26 (0, 0)) zk hg (Kd.N_ne HO2170.out BK2157.out (by decide))); have n3_ := Aside0.mk (Kd.V_afterv (ok := (fun k_ => (w.heap.size ≤ k_) ∧ k_ ≠ gb2152 ∧ k_ ≠ gb2157)) (by (with_reducible repeat (first | apply Kd.V_alloc | apply Kd.V_drewN | apply Kd.V_drew)); exact HO2175.out) hg hat); have n4_ := Aside0.mk (hb); have n5_ := Aside0.mk (ho); clear HO_8; clear BK2152; clear BK2157; clear HO2175; clear HB; clear HO2170; have HO_8 := n0_; have BK2152 := n1_; have BK2157 := n2_; have HO2175 := n3_; have HB := n4_; have HO2178 := n5_; clear n0_ n1_ n2_ n3_ n4_ n5_; clear ho hb hg hat) | ((with_reducible refine gate_dst (N := 184) rfl ?_); refine Kd.R_lit (Kd.int .i64) _ 3 ?hg (N := 184) ?hd (xs := ([(wrap64 (Int.tdiv (wrap64 ((wrap64 (x9_1 * (wrap64 (((rd_T26 l0 2).f1) - ((rd_T26 l0 0).f1))))) - (wrap64 (x10_2 * (wrap64 (((rd_T26 l0 1).f1) - ((rd_T26 l0 0).f1))))))) (wrap64 ((wrap64 ((wrap64 (((rd_T26 l0 1).f0) - ((rd_T26 l0 0).f0))) * (wrap64 (((rd_T26 l0 2).f1) - ((rd_T26 l0 0).f1))))) - (wrap64 ((wrap64 (((rd_T26 l0 1).f1) - ((rd_T26 l0 0).f1))) * (wrap64 (((rd_T26 l0 2).f0) - ((rd_T26 l0 0).f0))))))))), (wrap64 (Int.tdiv (wrap64 ((wrap64 (x10_2 * (wrap64 (((rd_T26 l0 1).f0) - ((rd_T26 l0 0).f0))))) - (wrap64 (x9_1 * (wrap64 (((rd_T26 l0 2).f0) - ((rd_T26 l0 0).f0))))))) (wrap64 ((wrap64 ((wrap64 (((rd_T26 l0 1).f0) - ((rd_T26 l0 0).f0))) * (wrap64 (((rd_T26 l0 2).f1) - ((rd_T26 l0 0).f1))))) - (wrap64 ((wrap64 (((rd_T26 l0 1).f1) - ((rd_T26 l0 0).f1))) * (wrap64 (((rd_T26 l0 2).f0) - ((rd_T26 l0 0).f0)))))))))] : List Int)) (inner := [.int .i64 (wrap64 (Int.tdiv (wrap64 ((wrap64 (x9_1 * (wrap64 (((rd_T26 l0 2).f1) - ((rd_T26 l0 0).f1))))) - (wrap64 (x10_2 * (wrap64 (((rd_T26 l0 1).f1) - ((rd_T26 l0 0).f1))))))) (wrap64 ((wrap64 ((wrap64 (((rd_T26 l0 1).f0) - ((rd_T26 l0 0).f0))) * (wrap64 (((rd_T26 l0 2).f1) - ((rd_T26 l0 0).f1))))) - (wrap64 ((wrap64 (((rd_T26 l0 1).f1) - ((rd_T26 l0 0).f1))) * (wrap64 (((rd_T26 l0 2).f0) - ((rd_T26 l0 0).f0))))))))), .int .i64 (wrap64 (Int.tdiv (wrap64 ((wrap64 (x10_2 * (wrap64 (((rd_T26 l0 1).f0) - ((rd_T26 l0 0).f0))))) - (wrap64 (x9_1 * (wrap64 (((rd_T26 l0 2).f0) - ((rd_T26 l0 0).f0))))))) (wrap64 ((wrap64 ((wrap64 (((rd_T26 l0 1).f0) - ((rd_T26 l0 0).f0))) * (wrap64 (((rd_T26 l0 2).f1) - ((rd_T26 l0 0).f1))))) - (wrap64 ((wrap64 (((rd_T26 l0 1).f1) - ((rd_T26 l0 0).f1))) * (wrap64 (((rd_T26 l0 2).f0) - ((rd_T26 l0 0).f0)))))))))]) (ok := fun _ => True) (okp := fun _ => True) ?hr ?hp (fun _ hk => hk) trivial (Below.refl _ _) (Nat.le_refl _) (by simp) ?_; (case hd => rfl); (case hg => rfl); (case hr => first | (go_simp; done) | (go_simp; rfl)); (case hp => exact (Reps.one (show Kd.M (Kd.int .i64) _ _ _ (wrap64 (Int.tdiv (wrap64 ((wrap64 (x9_1 * (wrap64 (((rd_T26 l0 2).f1) - ((rd_T26 l0 0).f1))))) - (wrap64 (x10_2 * (wrap64 (((rd_T26 l0 1).f1) - ((rd_T26 l0 0).f1))))))) (wrap64 ((wrap64 ((wrap64 (((rd_T26 l0 1).f0) - ((rd_T26 l0 0).f0))) * (wrap64 (((rd_T26 l0 2).f1) - ((rd_T26 l0 0).f1))))) - (wrap64 ((wrap64 (((rd_T26 l0 1).f1) - ((rd_T26 l0 0).f1))) * (wrap64 (((rd_T26 l0 2).f0) - ((rd_T26 l0 0).f0))))))))) [.int .i64 (wrap64 (Int.tdiv (wrap64 ((wrap64 (x9_1 * (wrap64 (((rd_T26 l0 2).f1) - ((rd_T26 l0 0).f1))))) - (wrap64 (x10_2 * (wrap64 (((rd_T26 l0 1).f1) - ((rd_T26 l0 0).f1))))))) (wrap64 ((wrap64 ((wrap64 (((rd_T26 l0 1).f0) - ((rd_T26 l0 0).f0))) * (wrap64 (((rd_T26 l0 2).f1) - ((rd_T26 l0 0).f1))))) - (wrap64 ((wrap64 (((rd_T26 l0 1).f1) - ((rd_T26 l0 0).f1))) * (wrap64 (((rd_T26 l0 2).f0) - ((rd_T26 l0 0).f0)))))))))] from rfl) (Reps.one (show Kd.M (Kd.int .i64) _ _ _ (wrap64 (Int.tdiv (wrap64 ((wrap64 (x10_2 * (wrap64 (((rd_T26 l0 1).f0) - ((rd_T26 l0 0).f0))))) - (wrap64 (x9_1 * (wrap64 (((rd_T26 l0 2).f0) - ((rd_T26 l0 0).f0))))))) (wrap64 ((wrap64 ((wrap64 (((rd_T26 l0 1).f0) - ((rd_T26 l0 0).f0))) * (wrap64 (((rd_T26 l0 2).f1) - ((rd_T26 l0 0).f1))))) - (wrap64 ((wrap64 (((rd_T26 l0 1).f1) - ((rd_T26 l0 0).f1))) * (wrap64 (((rd_T26 l0 2).f0) - ((rd_T26 l0 0).f0))))))))) [.int .i64 (wrap64 (Int.tdiv (wrap64 ((wrap64 (x10_2 * (wrap64 (((rd_T26 l0 1).f0) - ((rd_T26 l0 0).f0))))) - (wrap64 (x9_1 * (wrap64 (((rd_T26 l0 2).f0) - ((rd_T26 l0 0).f0))))))) (wrap64 ((wrap64 ((wrap64 (((rd_T26 l0 1).f0) - ((rd_T26 l0 0).f0))) * (wrap64 (((rd_T26 l0 2).f1) - ((rd_T26 l0 0).f1))))) - (wrap64 ((wrap64 (((rd_T26 l0 1).f1) - ((rd_T26 l0 0).f1))) * (wrap64 (((rd_T26 l0 2).f0) - ((rd_T26 l0 0).f0)))))))))] from rfl) (Reps.none _ _)))); intro v2180 w62 ho63 hb hg_ hnew_; clear hg_ hnew_; (first | rw [← Ny2179.out] at ho63 | (simp only [Int.reduceToNat] at ho63; rw [← Ny2179.out] at ho63)); have n0_ := Aside0.mk (Kd.N_elder' (by (with_reducible repeat (first | apply Kd.N_alloc | apply Kd.N_drewN | apply Kd.N_drew)); exact HO_8.out) (Kd.R_base ho63) hb); have n1_ := Aside0.mk (Kd.V_elder' (by (with_reducible repeat (first | apply Kd.V_alloc | apply Kd.V_drewN | apply Kd.V_drew)); exact HO2175.out) (Kd.R_base ho63) hb); have n2_ := Aside0.mk (Kd.N_elder' (by (with_reducible repeat (first | apply Kd.N_alloc | apply Kd.N_drewN | apply Kd.N_drew)); exact HO2178.out) (Kd.R_base ho63) hb); have n3_ := Aside0.mk (Kd.R_lower (Kd.R_newM (M := fun k_ => (w.heap.size ≤ k_)) ho63 (below_size zb) (fun k_ h_ => h_)) (below_size zb)); have n4_ := Aside0.mk (blk_below (g := gb2152) (o := .cells #[.int .i64 (wrap64 (((rd_T26 l0 1).f0) - ((rd_T26 l0 0).f0))), .int .i64 (wrap64 (((rd_T26 l0 1).f1) - ((rd_T26 l0 0).f1)))] 26 (0, 0)) zk hb); have n5_ := Aside0.mk (blk_below (g := gb2157) (o := .cells #[.int .i64 (wrap64 (((rd_T26 l0 2).f0) - ((rd_T26 l0 0).f0))), .int .i64 (wrap64 (((rd_T26 l0 2).f1) - ((rd_T26 l0 0).f1)))] 26 (0, 0)) zk hb); have n6_ := Aside0.mk (below_step zb hb); clear HO_8; clear HO2175; clear HO2178; clear BK2152; clear BK2157; clear HB; have HO_8 := n0_; have HO2175 := n1_; have HO2178 := n2_; have HO2181 := n3_; have BK2152 := n4_; have BK2157 := n5_; have HB := n6_; clear n0_ n1_ n2_ n3_ n4_ n5_ n6_; clear hb ho63; obtain ⟨Ao65, co65, eo65⟩ := Kd.R_slice HO2181.out; subst eo65) | ((with_reducible refine gate_builtin (b := .append) (xs := #[.tmp 181, .tmp 185]) rfl ?_); at_builtin; refine Kd.N_append (Kd.slice 3 (Kd.int .i64)) (w0 := w) w.heap.size rfl (.tmp 181) (.tmp 185) 83 29 (.slice none 0 0) 24 rfl Try.underlying83 info29 rfl (by decide) (by omega) v2177 y2176 y2179 [.slice Ao65 y2179.length co65] (fun k_ => (w.heap.size ≤ k_) ∧ k_ ≠ gb2152 ∧ k_ ≠ gb2157) (fun k_ => ((fun k_ => (w.heap.size ≤ k_) ∧ k_ ≠ gb2152 ∧ k_ ≠ gb2157)) k_ ∧ some k_ ≠ (v2177 : Value).ownBlock) rfl rfl ?aP (fun _ hk => hk) ?aF ?aO ?aB ?aS ?aL ?_; (case aP => exact (Kd.FK_slice_mk (Kd.R_reads' (Kd.R_mono (ok' := (fun k_ => ((fun k_ => (w.heap.size ≤ k_) ∧ k_ ≠ gb2152 ∧ k_ ≠ gb2157)) k_ ∧ some k_ ≠ (v2177 : Value).ownBlock)) (Kd.R_types (Kd.R_types (Kd.R_apart' (HO2181.out) (Kd.N_typed HO2178.out) (by decide)) BK2152.out (by decide)) BK2157.out (by decide)) (fun k_ hk => ⟨⟨hk.1.1.1.1, ⟨hk.1.2, hk.2⟩⟩, hk.1.1.2⟩))).2.1 (Kd.R_F (Kd.R_mono (ok' := (fun k_ => ((fun k_ => (w.heap.size ≤ k_) ∧ k_ ≠ gb2152 ∧ k_ ≠ gb2157)) k_ ∧ some k_ ≠ (v2177 : Value).ownBlock)) (Kd.R_types (Kd.R_types (Kd.R_apart' (HO2181.out) (Kd.N_typed HO2178.out) (by decide)) BK2152.out (by decide)) BK2157.out (by decide)) (fun k_ hk => ⟨⟨hk.1.1.1.1, ⟨hk.1.2, hk.2⟩⟩, hk.1.1.2⟩))))); (case aB => exact zb); (case aF => exact (fun k_ hk => ⟨(Nat.le_trans (below_size zb) hk), Kd.freshB (g := gb2152) (o := .cells #[.int .i64 (wrap64 (((rd_T26 l0 1).f0) - ((rd_T26 l0 0).f0))), .int .i64 (wrap64 (((rd_T26 l0 1).f1) - ((rd_T26 l0 0).f1)))] 26 (0, 0)) zk k_ hk, Kd.freshB (g := gb2157) (o := .cells #[.int .i64 (wrap64 (((rd_T26 l0 2).f0) - ((rd_T26 l0 0).f0))), .int .i64 (wrap64 (((rd_T26 l0 2).f1) - ((rd_T26 l0 0).f1)))] 26 (0, 0)) zk k_ hk⟩)); (case aO => exact (by (with_reducible repeat (first | apply Kd.N_alloc | apply Kd.N_drewN | apply Kd.N_drew)); exact Kd.N_mono HO2178.out (fun _ hk => ⟨hk.1.1, ⟨hk.1.2.1, hk.1.2.2⟩⟩))); (case aS => exact (below_size zb)); (case aL => have := LMc54.out; omega); intro v2183 w64 ho hb hg hat; rw [← Ny2182.out] at ho; have n0_ := Aside0.mk (Kd.N_afterv (ok := (fun k_ => (w.heap.size ≤ k_) ∧ some k_ ≠ (.slice Ao65 y2179.length co65 : Value).ownBlock ∧ k_ ≠ gb2152 ∧ k_ ≠ gb2157)) (by (with_reducible repeat (first | apply Kd.N_alloc | apply Kd.N_drewN | apply Kd.N_drew)); exact Kd.N_mono HO_8.out (fun _ hk => ⟨⟨hk.1.1.1, ⟨hk.2, ⟨hk.1.1.2.1, hk.1.1.2.2⟩⟩⟩, hk.1.2⟩)) hg hat); have n1_ := Aside0.mk (blk_grown (g := gb2152) (o := .cells #[.int .i64 (wrap64 (((rd_T26 l0 1).f0) - ((rd_T26 l0 0).f0))), .int .i64 (wrap64 (((rd_T26 l0 1).f1) - ((rd_T26 l0 0).f1)))] 26 (0, 0)) zk hg (Kd.N_ne HO2178.out BK2152.out (by decide))); have n2_ := Aside0.mk (blk_grown (g := gb2157) (o := .cells #[.int .i64 (wrap64 (((rd_T26 l0 2).f0) - ((rd_T26 l0 0).f0))), .int .i64 (wrap64 (((rd_T26 l0 2).f1) - ((rd_T26 l0 0).f1)))] 26 (0, 0)) zk hg (Kd.N_ne HO2178.out BK2157.out (by decide))); have n3_ := Aside0.mk (Kd.V_afterv (ok := (fun k_ => (w.heap.size ≤ k_) ∧ some k_ ≠ (.slice Ao65 y2179.length co65 : Value).ownBlock ∧ k_ ≠ gb2152 ∧ k_ ≠ gb2157)) (by (with_reducible repeat (first | apply Kd.V_alloc | apply Kd.V_drewN | apply Kd.V_drew)); exact Kd.V_mono HO2175.out (fun _ hk => ⟨⟨hk.1.1.1, ⟨hk.2, ⟨hk.1.1.2.1, hk.1.1.2.2⟩⟩⟩, hk.1.2⟩)) hg hat); have n4_ := Aside0.mk (hb); have n5_ := Aside0.mk (ho); clear HO_8; clear BK2152; clear BK2157; clear HO2175; clear HB; clear HO2178; clear HO2181; have HO_8 := n0_; have BK2152 := n1_; have BK2157 := n2_; have HO2175 := n3_; have HB := n4_; have HO2184 := n5_; clear n0_ n1_ n2_ n3_ n4_ n5_; clear ho hb hg hat; have q66 : (x15_5 : Int) ≤ ((x8_2.length : Int) : Int) := of_decide_eq_true (by first | (with_reducible assumption) | assumption); obtain ⟨i066, hi066, _, hsz66, _⟩ := info_parts info29; have hroom66 : x8_2.length ≤ co40 := (Kd.N_reads' HO_8.out).2.1; have hC66 : Kd.F (Kd.slice 3 (Kd.int .i64)) _ _ Ao40 x8_2.length x8_2 := (Kd.V_at (base := w.heap.size) (Kd.N_V HO_8.out)).2.2; have q066 : (0 : Int) ≤ (x15_5 : Int) := of_decide_eq_true (by first | (with_reducible assumption) | assumption); have hcut66 := cut_from (P := Try.prog) 83 29 .i64 Try.underlying83 hi066 1 hsz66 Ao40 x8_2.length co40 x15_5 q066 q66; have hr66 := Kd.F_cut (m := (x15_5 : Int).toNat) (c := co40) hC66 (by omega) hroom66; obtain ⟨A66, hA66⟩ : ∃ A1, A1 = (if co40 = (x15_5 : Int).toNat then Ao40 else (Ao40 : Option Addr).map (·.add ((x15_5 : Int).toNat * 1))) := ⟨_, rfl⟩; obtain ⟨c66, hc66⟩ : ∃ c1, c1 = co40 - (x15_5 : Int).toNat := ⟨_, rfl⟩; have hy66 : y2185.length = x8_2.length - (x15_5 : Int).toNat := (by rw [Ny2185.out, List.length_drop] <;> omega); rw [show (x8_2).drop (x15_5 : Int).toNat = y2185 from Ny2185.out.symm] at hr66; replace hr66 : Kd.F (Kd.slice 3 (Kd.int .i64)) _ _ A66 y2185.length y2185 := (by rw [hA66]; exact hr66); rw [← hy66, ← hA66, ← hc66] at hcut66; have HO2189 := Aside0.mk (show Kd.V (Kd.slice 3 (Kd.int .i64)) 29 _ w.heap.size _ (.slice A66 y2185.length c66) y2185 from Kd.V_mk (by rw [hy66, hc66]; exact Nat.sub_le_sub_right hroom66 _) hr66); have HC2189 := Aside0.mk (show y2185.length ≤ c66 from by rw [hy66, hc66]; exact Nat.sub_le_sub_right hroom66 _); clear hr66 hC66 hroom66 hi066 hsz66 hc66; have KY66 := Aside0.mk hy66; have KA66 := Aside0.mk hA66; clear hy66 hA66; replace q66 := eq_true q66) | ((with_reducible refine gate_builtin (b := .append) (xs := #[.tmp 187, .tmp 190]) rfl ?_); at_builtin; refine Kd.N_append_rows (Kd.slice 3 (Kd.int .i64)) (w0 := w) w.heap.size rfl (.tmp 187) (.tmp 190) 83 29 (.slice none 0 0) 24 rfl Try.underlying83 info29 rfl (by decide) (by omega) v2183 y2182 y2185 _ _ _ (fun k_ => (w.heap.size ≤ k_) ∧ k_ ≠ gb2152 ∧ k_ ≠ gb2157) (fun k_ => ((fun k_ => (w.heap.size ≤ k_) ∧ k_ ≠ gb2152 ∧ k_ ≠ gb2157)) k_ ∧ some k_ ≠ (v2183 : Value).ownBlock) rfl rfl ?aO ?aR (fun _ hk => hk) ?aF ?aB ?aS ?aL ?_; (case aR => exact (by skip; exact Kd.V_F (Kd.V_mono (ok' := (fun k_ => ((fun k_ => (w.heap.size ≤ k_) ∧ k_ ≠ gb2152 ∧ k_ ≠ gb2157)) k_ ∧ some k_ ≠ (v2183 : Value).ownBlock)) (HO2189.out) (fun k_ hk => ⟨⟨hk.1.1, ⟨hk.1.2.2.1, hk.1.2.2.2⟩⟩, hk.2⟩)))); (case aB => exact zb); (case aF => exact (fun k_ hk => ⟨(Nat.le_trans (below_size zb) hk), Kd.freshB (g := gb2152) (o := .cells #[.int .i64 (wrap64 (((rd_T26 l0 1).f0) - ((rd_T26 l0 0).f0))), .int .i64 (wrap64 (((rd_T26 l0 1).f1) - ((rd_T26 l0 0).f1)))] 26 (0, 0)) zk k_ hk, Kd.freshB (g := gb2157) (o := .cells #[.int .i64 (wrap64 (((rd_T26 l0 2).f0) - ((rd_T26 l0 0).f0))), .int .i64 (wrap64 (((rd_T26 l0 2).f1) - ((rd_T26 l0 0).f1)))] 26 (0, 0)) zk k_ hk⟩)); (case aO => exact (by (with_reducible repeat (first | apply Kd.N_alloc | apply Kd.N_drewN | apply Kd.N_drew)); exact HO2184.out)); (case aS => exact (below_size zb)); (case aL => have := LMc57.out; omega); intro v2191 w67 ho hb hg hat; rw [← Ny2190.out] at ho; have n0_ := Aside0.mk (Kd.N_afterv (ok := (fun k_ => (w.heap.size ≤ k_) ∧ k_ ≠ gb2152 ∧ k_ ≠ gb2157)) (by (with_reducible repeat (first | apply Kd.N_alloc | apply Kd.N_drewN | apply Kd.N_drew)); exact Kd.N_mono HO_8.out (fun _ hk => ⟨⟨hk.1.1, ⟨hk.1.2.2.1, hk.1.2.2.2⟩⟩, hk.2⟩)) hg hat); have n1_ := Aside0.mk (blk_grown (g := gb2152) (o := .cells #[.int .i64 (wrap64 (((rd_T26 l0 1).f0) - ((rd_T26 l0 0).f0))), .int .i64 (wrap64 (((rd_T26 l0 1).f1) - ((rd_T26 l0 0).f1)))] 26 (0, 0)) zk hg (Kd.N_ne HO2184.out BK2152.out (by decide))); have n2_ := Aside0.mk (blk_grown (g := gb2157) (o := .cells #[.int .i64 (wrap64 (((rd_T26 l0 2).f0) - ((rd_T26 l0 0).f0))), .int .i64 (wrap64 (((rd_T26 l0 2).f1) - ((rd_T26 l0 0).f1)))] 26 (0, 0)) zk hg (Kd.N_ne HO2184.out BK2157.out (by decide))); have n3_ := Aside0.mk (Kd.V_afterv (ok := (fun k_ => (w.heap.size ≤ k_) ∧ k_ ≠ gb2152 ∧ k_ ≠ gb2157)) (by (with_reducible repeat (first | apply Kd.V_alloc | apply Kd.V_drewN | apply Kd.V_drew)); exact Kd.V_mono HO2175.out (fun _ hk => ⟨⟨hk.1.1, ⟨hk.1.2.2.1, hk.1.2.2.2⟩⟩, hk.2⟩)) hg hat); have n4_ := Aside0.mk (Kd.V_afterv (ok := (fun k_ => (w.heap.size ≤ k_) ∧ k_ ≠ gb2152 ∧ k_ ≠ gb2157)) (by (with_reducible repeat (first | apply Kd.V_alloc | apply Kd.V_drewN | apply Kd.V_drew)); exact Kd.V_mono HO2189.out (fun _ hk => ⟨⟨hk.1.1, ⟨hk.1.2.2.1, hk.1.2.2.2⟩⟩, hk.2⟩)) hg hat); have n5_ := Aside0.mk (hb); have n6_ := Aside0.mk (ho); clear HO_8; clear BK2152; clear BK2157; clear HO2175; clear HO2189; clear HB; clear HO2184; have HO_8 := n0_; have BK2152 := n1_; have BK2157 := n2_; have HO2175 := n3_; have HO2189 := n4_; have HB := n5_; have HO2192 := n6_; clear n0_ n1_ n2_ n3_ n4_ n5_ n6_; clear ho hb hg hat))
                           go_roundg kj40
                           case measure => have := HK1.out; have := HK2.out; have := HJ19.out; have := HJ25.out; have := HK5.out; have := HJ40.out; omega
                           case rel => exact ⟨(y2190), (wrap64 (x10_2 + 1)), (by first | rfl | (simp; done) | (simp [*]; done)), H', ⟨by have := HK1.out; have := HK2.out; have := HJ19.out; have := HJ25.out; have := HK5.out; have := HJ40.out; omega⟩, ⟨by (with_reducible repeat (first | apply Kd.N_alloc | apply Kd.N_drewN | apply Kd.N_drew)); exact HO2192.out⟩, ⟨zk⟩, ⟨zk⟩, ⟨zb⟩⟩
                          ·rw [if_neg c57] at H
                           exact absurd H (by simp)
                         ·rw [if_neg c54] at H
                          exact absurd H (by simp)
                        ·rw [if_neg c53] at H
                         exact absurd H (by simp)
                       ·rw [if_neg c52] at H
                        exact absurd H (by simp)
                      ·rw [if_neg c51] at H
                       exact absurd H (by simp)
         ·rw [if_neg c19] at H
          have c19b0 : decide (x10_2 ≤ a1) = false := decide_eq_false c19
          clear c19
          have H' := Aside0.mk H
          clear H
          go_wp2
          go_roundg k2
          case measure => have := HK1.out; have := HK2.out; omega
          case rel => exact ⟨(x8_2), (wrap64 (x9_1 + 1)), (by first | rfl | (simp; done) | (simp [*]; done)), H', ⟨by have := HK1.out; have := HK2.out; omega⟩, ⟨by (with_reducible repeat (first | apply Kd.N_alloc | apply Kd.N_drewN | apply Kd.N_drew)); exact HO_8.out⟩, ⟨zk⟩, ⟨zk⟩, ⟨zb⟩⟩
      ·rw [if_neg c18] at H
       have c18b0 : decide (x9_1 ≤ a1) = false := decide_eq_false c18
       clear c18
       obtain rfl := Option.some.inj H
       go_wp2
       go_ret
       exact ⟨_, by first | rfl | (simp [errW_none, errW_some] <;> rfl) | (simp [*, errW_none, errW_some] <;> rfl), by (with_reducible repeat (first | apply Kd.N_alloc | apply Kd.N_drewN | apply Kd.N_drew)); exact Kd.N_mono HO_8.out (fun _ hk => hk.1), zb⟩
   ·rw [if_neg c5] at H
    exact absurd H (by simp)
  ·rw [if_neg c4] at H
   exact absurd H (by simp)
 ·rw [if_neg c3] at H
  exact absurd H (by simp)
end Go.Proofs.Ytphpdfcblchpnaa.Q
namespace Go.Proofs.Ytphpdfcblchpnaa.Q
open Go.RowKit Go.Proofs.YtphpdfcblchpnaaW.PrintWords Go.Proofs.YtphpdfcblchpnaaW.PrintLast Go.Proofs.YtphpdfcblchpnaaW.PrintMore
attribute [local go_sem] max2_int min2_int max_two min_two max_three min_three max_four min_four   -- for this text's walks alone
set_option linter.unusedVariables false
set_option linter.unusedSimpArgs false
def spec_IsThin.f (k : Nat) (l0 : List (S26)) : Option (Bool × Bool) := (spec_pgGood.f k l0).bind fun t2193 => (if t2193 = true then ((spec_wiAll.f k l0 1).bind fun t2194 => (some (decide ((t2194.length : Int) > 0), true))) else (some (false, false)))
set_option maxHeartbeats 8000000 in
set_option maxRecDepth 100000 in
theorem spec_IsThin.calls (k : Nat) (A0 : Option Addr) (c0 : Nat) (l0 : List (S26)) (r1 : Bool) (r2 : Bool) (w : World) (hr0 : Kd.C k26 w A0 l0.length l0) (hc0 : l0.length ≤ c0) (h : spec_IsThin.f k l0 = some (r1, r2)) :
  Calls Try.prog 120 #[.slice A0 l0.length c0] w fun e w' => e = .returned (.tuple #[.bool r1, .bool r2]) ∧ Below w.heap.size w w' := by
 have HR0 := Aside0.mk hr0
 have HC0 := Aside0.mk hc0
 clear hr0 hc0
 have HB := Aside0.mk (Below.refl w.heap.size w)
 have H : ((spec_pgGood.f k l0).bind fun t2193 => (if t2193 = true then ((spec_wiAll.f k l0 1).bind fun t2194 => (some (decide ((t2194.length : Int) > 0), true))) else (some (false, false)))) = some (r1, r2) := h
 clear h
 replace H := Option.bind_eq_some_iff.mp H
 obtain ⟨t2193, A20, H⟩ := H
 replace H : (if t2193 = true then ((spec_wiAll.f k l0 1).bind fun t2194 => (some (decide ((t2194.length : Int) > 0), true))) else (some (false, false))) = some (r1, r2) := H
 have A2 := Aside0.mk A20
 clear A20
 by_cases c3 : t2193 = true
 ·subst c3
  have H1 : ((spec_wiAll.f k l0 1).bind fun t2194 => (some (decide ((t2194.length : Int) > 0), true))) = some (r1, r2) := by rw [if_pos rfl] at H; exact H
  clear H
  have H := H1
  clear H1
  replace H := Option.bind_eq_some_iff.mp H
  obtain ⟨t2194, A40, H⟩ := H
  replace H : (some (decide ((t2194.length : Int) > 0), true)) = some (r1, r2) := H
  have A4 := Aside0.mk A40
  clear A40
  simp only [Option.some.injEq, Prod.mk.injEq] at H
  obtain ⟨rfl, rfl⟩ := H
  go_enter Try.func120, Try.ntmps120
  go_wp2_with (first | ((with_reducible refine gate_callee (f := 163) rfl ?_); refine goesL_ (some 5) rfl rfl Try.func163 (by kernel_rfl) rfl #[.slice A0 l0.length c0] rfl zn ?_; (with_reducible refine (spec_pgGood.calls k _ _ l0 true _ ?side1 ?side2 A2.out).mono ?_); (case side1 => repeat (first | exact HR0.out | (with_reducible refine Kd.C_alloc ?_ _) | (with_reducible refine Kd.C_drewN ?_ _) | (with_reducible refine Kd.C_drew ?_))); (case side2 => exact HC0.out); rintro e w5 ⟨rfl, hb⟩; refine ⟨_, rfl, ?_⟩; have n0_ := Aside0.mk (below_step zb hb); clear HB; have HB := n0_; clear n0_; (try clear hb); (try clear hb2); (try clear hk); (try clear hi)) | ((with_reducible refine gate_callee (f := 220) rfl ?_); refine goesL_ (some 8) rfl rfl Try.func220 (by kernel_rfl) rfl #[.slice A0 l0.length c0, .int .i64 1] rfl zn ?_; (with_reducible refine (spec_wiAll.calls k _ _ l0 1 t2194 _ ?side1 ?side2 A4.out).mono ?_); (case side1 => repeat (first | exact (Kd.C_below HR0.out HB.out) | (with_reducible refine Kd.C_alloc ?_ _) | (with_reducible refine Kd.C_drewN ?_ _) | (with_reducible refine Kd.C_drew ?_))); (case side2 => exact HC0.out); rintro e w6 ⟨v2195, rfl, ho0, hb⟩; refine ⟨_, rfl, ?_⟩; have n0_ := Aside0.mk (Kd.N_lower (Kd.N_mono (ok' := fun k_ => True) ho0 (fun k_ hk_ => trivial)) (below_size zb)); have n1_ := Aside0.mk (below_step zb hb); clear HB; have HO2196 := n0_; have HB := n1_; clear n0_ n1_; (try clear hb); (try clear hb2); (try clear hk); (try clear hi); (try clear ho0); obtain ⟨Ao7, co7, eo7⟩ := Kd.N_slice HO2196.out; subst eo7))
  go_ret2
  exact ⟨by first | rfl | (simp [errW_none, errW_some] <;> rfl) | (simp [*, errW_none, errW_some] <;> rfl), zb⟩
 ·replace c3 := Bool.eq_false_iff.mpr c3
  subst c3
  have H1 : (some (false, false)) = some (r1, r2) := by rw [if_neg (show ¬ (false = true) by decide)] at H; exact H
  clear H
  have H := H1
  clear H1
  simp only [Option.some.injEq, Prod.mk.injEq] at H
  obtain ⟨rfl, rfl⟩ := H
  go_enter Try.func120, Try.ntmps120
  go_wp2_with (first | ((with_reducible refine gate_callee (f := 163) rfl ?_); refine goesL_ (some 5) rfl rfl Try.func163 (by kernel_rfl) rfl #[.slice A0 l0.length c0] rfl zn ?_; (with_reducible refine (spec_pgGood.calls k _ _ l0 false _ ?side1 ?side2 A2.out).mono ?_); (case side1 => repeat (first | exact HR0.out | (with_reducible refine Kd.C_alloc ?_ _) | (with_reducible refine Kd.C_drewN ?_ _) | (with_reducible refine Kd.C_drew ?_))); (case side2 => exact HC0.out); rintro e w8 ⟨rfl, hb⟩; refine ⟨_, rfl, ?_⟩; have n0_ := Aside0.mk (below_step zb hb); clear HB; have HB := n0_; clear n0_; (try clear hb); (try clear hb2); (try clear hk); (try clear hi)))
  go_ret2
  exact ⟨by first | rfl | (simp [errW_none, errW_some] <;> rfl) | (simp [*, errW_none, errW_some] <;> rfl), zb⟩
def impl_value.f (a0_0 : Int) (a0_1 : Int) (a1_0 : Int) (a1_1 : Int) : Option (Int) := some (wrap64 ((wrap64 (a0_0 * a1_0)) + (wrap64 (a0_1 * a1_1))))
set_option maxHeartbeats 8000000 in
set_option maxRecDepth 100000 in
theorem impl_value.calls (a0_0 : Int) (a0_1 : Int) (a1_0 : Int) (a1_1 : Int) (r : Int) (w : World) (h : impl_value.f a0_0 a0_1 a1_0 a1_1 = some r) :
  Calls Try.prog 298 #[.agg #[.int .i64 a0_0, .int .i64 a0_1], .agg #[.int .i64 a1_0, .int .i64 a1_1]] w fun e w' => e = .returned (.int .i64 r) ∧ Below w.heap.size w w' := by
 have hu26 := Try.underlying26
 have HB := Aside0.mk (Below.refl w.heap.size w)
 have H : (some (wrap64 ((wrap64 (a0_0 * a1_0)) + (wrap64 (a0_1 * a1_1))))) = some r := h
 clear h
 obtain rfl := Option.some.inj H
 go_enter Try.func298, Try.ntmps298
 go_wp2_with (first | ((with_reducible refine gate_dst (N := 2) rfl ?_); refine box_event ?hg (N := 2) ?hd (cs := #[.int .i64 a0_0, .int .i64 a0_1]) (t := 26) ?hr ?_; (case hd => rfl); (case hg => rfl); (case hr => first | (go_simp; done) | (go_simp; rfl)); intro gb2197 hg w3 hbox hb; have n0_ := Aside0.mk (below_step zb hb); have n1_ := Aside0.mk (hbox); have n2_ := Aside0.mk ((by rw [hg]; exact (below_size zb) : w.heap.size ≤ gb2197)); have n3_ := Aside0.mk ((by rw [hg]; exact (below_size zb) : w.heap.size ≤ gb2197)); clear HB; have HB := n0_; have BK2197 := n1_; have GW2197 := n2_; have GE2197 := n3_; clear n0_ n1_ n2_ n3_; clear hb hbox hg) | ((with_reducible refine gate_dst (N := 3) rfl ?_); refine box_event ?hg (N := 3) ?hd (cs := #[.int .i64 a1_0, .int .i64 a1_1]) (t := 26) ?hr ?_; (case hd => rfl); (case hg => rfl); (case hr => first | (go_simp; done) | (go_simp; rfl)); intro gb2198 hg w4 hbox hb; have n0_ := Aside0.mk (blk_below (g := gb2197) (o := .cells #[.int .i64 a0_0, .int .i64 a0_1] 26 (0, 0)) zk hb); have n1_ := Aside0.mk (below_step zb hb); have n2_ := Aside0.mk (hbox); have n3_ := Aside0.mk ((by rw [hg]; exact (below_size zb) : w.heap.size ≤ gb2198)); have n4_ := Aside0.mk ((by rw [hg]; exact (below_size zb) : w.heap.size ≤ gb2198)); have n5_ := Aside0.mk ((by rw [hg]; exact Nat.ne_of_lt (blk_lt (g := gb2197) (o := .cells #[.int .i64 a0_0, .int .i64 a0_1] 26 (0, 0)) zk) : gb2197 ≠ gb2198)); have n6_ := Aside0.mk ((by rw [hg]; exact Nat.ne_of_gt (blk_lt (g := gb2197) (o := .cells #[.int .i64 a0_0, .int .i64 a0_1] 26 (0, 0)) zk) : gb2198 ≠ gb2197)); clear BK2197; clear HB; have BK2197 := n0_; have HB := n1_; have BK2198 := n2_; have GW2198 := n3_; have GE2198 := n4_; have NB2197_2198 := n5_; have NB2198_2197 := n6_; clear n0_ n1_ n2_ n3_ n4_ n5_ n6_; clear hb hbox hg; have hnb5 := NB2197_2198.out; have hnc5 := NB2198_2197.out; have hcz6_0 : w4.cell? ⟨gb2197, 0, none⟩ = some (.int .i64 a0_0) := (blk_cell BK2197.out 0).trans rfl; have hcz6_1 : w4.cell? ⟨gb2197, 1, none⟩ = some (.int .i64 a0_1) := (blk_cell BK2197.out 1).trans rfl; have hfz6_0 := blk_frozen BK2197.out 0; have hfz6_1 := blk_frozen BK2197.out 1; have hcz7_0 : w4.cell? ⟨gb2198, 0, none⟩ = some (.int .i64 a1_0) := (blk_cell BK2198.out 0).trans rfl; have hcz7_1 : w4.cell? ⟨gb2198, 1, none⟩ = some (.int .i64 a1_1) := (blk_cell BK2198.out 1).trans rfl; have hfz7_0 := blk_frozen BK2198.out 0; have hfz7_1 := blk_frozen BK2198.out 1))
 go_ret
 exact ⟨by first | rfl | (simp [errW_none, errW_some] <;> rfl) | (simp [*, errW_none, errW_some] <;> rfl), zb⟩
def impl_extent.l0 : Nat → Int → Int → List (S26) → Int → Int → Int → Int → Option (Int × Int)
 | 0, _, _, _, _, _, _, _ => none
 | k + 1, x6, x7, x16, x17, x18, x2200000, x2200001 => if x18 < x17 then (if 0 ≤ x18 then (if x18 < (x16.length : Int) then ((impl_value.f x2200000 x2200001 ((rd_T26 x16 x18).f0) ((rd_T26 x16 x18).f1)).bind fun t2204 => ((impl_value.f x2200000 x2200001 ((rd_T26 x16 x18).f0) ((rd_T26 x16 x18).f1)).bind fun t2205 => (impl_extent.l0 k (mn x6 t2204) (mx x7 t2205) x16 x17 (wrap64 (x18 + 1)) x2200000 x2200001))) else (none)) else (none)) else (some (x6, x7))
def impl_extent.f (k : Nat) (l0 : List (S26)) (a1_0 : Int) (a1_1 : Int) : Option (Int × Int) := if 0 < (l0.length : Int) then ((impl_value.f a1_0 a1_1 ((rd_T26 l0 0).f0) ((rd_T26 l0 0).f1)).bind fun t2201 => (impl_extent.l0 k t2201 t2201 l0 (l0.length : Int) 0 a1_0 a1_1)) else (none)
def impl_extent.T6 : Bool × List (List Nat × List Nat) := (true, [([], []), ([], []), ([], []), ([1, 2], [1, 2]), ([0, 3], [0, 3]), ([], []), ([], []), ([], []), ([6, 7, 3], [6, 7]), ([5, 8], [5, 8]), ([4, 8, 0, 1, 2, 3, 4], [0, 4]), ([9, 10, 0, 1, 2, 3, 4, 5, 6, 7, 8, 9, 10], [5, 9])])
def impl_extent.B6 : List Nat := [0, 0, 0, 6, 15, 0, 0, 0, 206, 494, 479, 2047]
theorem impl_extent.tab6 : rtab .any (opsOf Try.f288 6) = impl_extent.T6 := by kernel_rfl
theorem impl_extent.bits6 : waitsOk impl_extent.T6.2 impl_extent.B6 = true := by kernel_rfl
set_option maxHeartbeats 8000000 in
set_option maxRecDepth 100000 in
theorem impl_extent.calls (k : Nat) (A0 : Option Addr) (c0 : Nat) (l0 : List (S26)) (a1_0 : Int) (a1_1 : Int) (r1 : Int) (r2 : Int) (w : World) (hr0 : Kd.C k26 w A0 l0.length l0) (hc0 : l0.length ≤ c0) (h : impl_extent.f k l0 a1_0 a1_1 = some (r1, r2)) :
  Calls Try.prog 288 #[.slice A0 l0.length c0, .agg #[.int .i64 a1_0, .int .i64 a1_1]] w fun e w' => e = .returned (.tuple #[.int .i64 r1, .int .i64 r2]) ∧ Below w.heap.size w w' := by
 have hu26 := Try.underlying26
 have HR0 := Aside0.mk hr0
 have HC0 := Aside0.mk hc0
 clear hr0 hc0
 have HB := Aside0.mk (Below.refl w.heap.size w)
 have H : (if 0 < (l0.length : Int) then ((impl_value.f a1_0 a1_1 ((rd_T26 l0 0).f0) ((rd_T26 l0 0).f1)).bind fun t2201 => (impl_extent.l0 k t2201 t2201 l0 (l0.length : Int) 0 a1_0 a1_1)) else (none)) = some (r1, r2) := h
 clear h
 by_cases c3 : 0 < (l0.length : Int)
 ·rw [if_pos c3] at H
  have c3b0 : decide (0 < (l0.length : Int)) = true := decide_eq_true c3
  have c3b1 : decide (0 < l0.length) = true := decide_eq_true (by omega)
  clear c3
  replace H := Option.bind_eq_some_iff.mp H
  obtain ⟨t2201, A40, H⟩ := H
  replace H : (impl_extent.l0 k t2201 t2201 l0 (l0.length : Int) 0 a1_0 a1_1) = some (r1, r2) := H
  have A4 := Aside0.mk A40
  clear A40
  have H' := Aside0.mk H
  clear H
  go_enter Try.func288, Try.ntmps288
  try go_wp2_with (first | ((with_reducible refine gate_dst (N := 3) rfl ?_); refine box_event ?hg (N := 3) ?hd (cs := #[.int .i64 a1_0, .int .i64 a1_1]) (t := 26) ?hr ?_; (case hd => rfl); (case hg => rfl); (case hr => first | (go_simp; done) | (go_simp; rfl)); intro gb2199 hg w5 hbox hb; have n0_ := Aside0.mk (below_step zb hb); have n1_ := Aside0.mk (hbox); have n2_ := Aside0.mk ((by rw [hg]; exact (below_size zb) : w.heap.size ≤ gb2199)); have n3_ := Aside0.mk ((by rw [hg]; exact (below_size zb) : w.heap.size ≤ gb2199)); clear HB; have HB := n0_; have BK2199 := n1_; have GW2199 := n2_; have GE2199 := n3_; clear n0_ n1_ n2_ n3_; clear hb hbox hg))
  have n0_ := Aside0.mk (blk_drew BK2199.out)
  have n1_ := Aside0.mk (below_drew1 HB.out)
  clear BK2199
  clear HB
  have BK2199 := n0_
  have HB := n1_
  clear n0_ n1_
  have p2200 : 0 ≤ (0 : Int) := (by omega)
  have q2200 : 0 < (l0.length : Int) := of_decide_eq_true (by first | (with_reducible assumption) | assumption)
  obtain ⟨ad2200, e2200, hx2200_0, hx2200_1⟩ := at_T26 HR0.out 0 p2200 q2200
  have hw2200_1 := hx2200_1
  (try rw [show ((0 : Int)).toNat = 0 from rfl] at hw2200_1)
  (try rw [show 0 * 2 = 0 from rfl] at hw2200_1)
  (try rw [Addr.add_zero'] at hw2200_1)
  have hw2200_0 := hx2200_0
  (try rw [show ((0 : Int)).toNat = 0 from rfl] at hw2200_0)
  (try rw [show 0 * 2 = 0 from rfl] at hw2200_0)
  (try rw [Addr.add_zero'] at hw2200_0)
  cases e2200
  have qi2200 : (0 < l0.length) = True := eq_true (by omega)
  (try rw [show ((0 : Int)).toNat = 0 from rfl] at hx2200_0)
  (try rw [show 0 * 2 = 0 from rfl] at hx2200_0)
  (try rw [Addr.add_zero'] at hx2200_0)
  (try rw [show ((0 : Int)).toNat = 0 from rfl] at hx2200_1)
  (try rw [show 0 * 2 = 0 from rfl] at hx2200_1)
  (try rw [Addr.add_zero'] at hx2200_1)
  replace hx2200_0 := zc HB hx2200_0
  replace hx2200_1 := zc HB hx2200_1
  replace p2200 := eq_true p2200
  replace q2200 := eq_true q2200
  refine start_ (n := 6) (S := fun w' => w'.cell? ⟨gb2199, 0, none⟩ = some (.int .i64 a1_0) ∧ w'.cell? ⟨gb2199, 1, none⟩ = some (.int .i64 a1_1) ∧ w'.cell? ad2200 = some (.int .i64 ((rd_T26 l0 0).f0)) ∧ w'.cell? ⟨ad2200.block, ad2200.off + 1, none⟩ = some (.int .i64 ((rd_T26 l0 0).f1))) (ds := []) (zl 6 0) (by kernel_rfl) rfl rfl ⟨(blk_cell BK2199.out 0).trans rfl, (blk_cell BK2199.out 1).trans rfl, (zc HB hw2200_0), (zc HB hw2200_1)⟩ (fun hHeld => ?_)
  generalize w5.drew = w6 at BK2199 HB hx2200_0 hx2200_1 hHeld ⊢
  refine pure_ (i := 1) (N := some 11) (v := ?_) (a' := ?_) (zl 6 2) rfl rfl (by kernel_rfl) (fun _ _ _ h => h) (Or.inl ⟨by rfl, ?_⟩) ?_ ?_
  rotate_left
  ·intro w'
   go_simp
   with_reducible rfl
  rotate_left
  ·exact zs
  refine pure_ (i := 2) (N := some 12) (v := ?_) (a' := ?_) (zl 6 6) rfl rfl (by kernel_rfl) (fun _ _ _ h => h) (Or.inl ⟨by rfl, ?_⟩) ?_ ?_
  rotate_left
  ·intro w'
   go_simp
   with_reducible rfl
  rotate_left
  ·exact zs
  refine take_ (i := 0) (N := some 10) (v := ?_) (a' := ?_) (zl 6 7) rfl rfl (by kernel_rfl) (fun _ _ _ h => h) (Or.inl ⟨by rfl, ?_⟩) hHeld ?_ ?_
  rotate_left
  ·rintro w' ⟨s0, s1, s2, s3⟩
   go_simp
   with_reducible rfl
  rotate_left
  ·exact zs
  refine take_ (i := 3) (N := some 13) (v := ?_) (a' := ?_) (zl 6 15) rfl rfl (by kernel_rfl) (fun _ _ _ h => h) (Or.inl ⟨by rfl, ?_⟩) hHeld ?_ ?_
  rotate_left
  ·rintro w' ⟨s0, s1, s2, s3⟩
   go_simp
   with_reducible rfl
  rotate_left
  ·exact zs
  refine one_ (i := 4) (N := some 14) (zl 6 31) rfl rfl (by kernel_rfl) (by decide) (fun K hK => ?_)
  refine goes_ Try.func298 (by kernel_rfl) rfl #[.agg #[.int .i64 a1_0, .int .i64 a1_1], .agg #[.int .i64 ((rd_T26 l0 0).f0), .int .i64 ((rd_T26 l0 0).f1)]] (by rfl) rfl rfl zn ?_
  with_reducible refine (impl_value.calls a1_0 a1_1 ((rd_T26 l0 0).f0) ((rd_T26 l0 0).f1) t2201 _ A4.out).mono ?_
  rintro e w7 ⟨rfl, hb⟩
  refine ⟨_, rfl, ?_⟩
  have n0_ := Aside0.mk (blk_below (g := gb2199) (o := .cells #[.int .i64 a1_0, .int .i64 a1_1] 26 (0, 0)) zk hb)
  have n1_ := Aside0.mk (below_step zb hb)
  clear BK2199
  clear HB
  have BK2199 := n0_
  have HB := n1_
  clear n0_ n1_
  (try clear hb)
  (try clear hb2)
  (try clear hk)
  (try clear hi)
  refine hK.out _ _ ⟨(blk_cell BK2199.out 0).trans rfl, (blk_cell BK2199.out 1).trans rfl, (zc HB hw2200_0), (zc HB hw2200_1)⟩ (fun hHeld => ?_)
  clear hK K
  refine norm_ (a' := ?_) ?_ ?_
  rotate_left
  ·show Act.put _ (some 14) _ = _
   exact zs
  refine pure_ (i := 5) (N := some 6) (v := ?_) (a' := ?_) (zl 6 63) rfl rfl (by kernel_rfl) (fun _ _ _ h => h) (Or.inl ⟨by rfl, ?_⟩) ?_ ?_
  rotate_left
  ·intro w'
   go_simp
   with_reducible rfl
  rotate_left
  ·exact zs
  refine done_ (by kernel_rfl) ?_
  try go_wp2
  go_loopg [6, 7, 18] k (fun kq v6 v7 v18 w' => ∃ (x6_1 : Int) (x7_1 : Int) (x18_1 : Int), v6 = .int .i64 x6_1 ∧ v7 = .int .i64 x7_1 ∧ v18 = .int .i64 x18_1 ∧ Aside0 (impl_extent.l0 kq x6_1 x7_1 l0 (l0.length : Int) x18_1 a1_0 a1_1 = some (r1, r2)) ∧ Aside0 (kq ≤ k) ∧ Aside0 (w'.heap[gb2199]? = some (.cells #[.int .i64 a1_0, .int .i64 a1_1] 26 (0, 0))) ∧ Aside0 (Below w.heap.size w w'))
  case atStart => exact ⟨(t2201), (t2201), (0), (by first | rfl | (simp; done) | (simp [*]; done)), (by first | rfl | (simp; done) | (simp [*]; done)), (by first | rfl | (simp; done) | (simp [*]; done)), H', ⟨Nat.le_refl _⟩, ⟨zk⟩, ⟨zb⟩⟩
  case round =>
   clear H'
   try clear c2
   try clear p2
   try clear q2
   try clear hx2
   try clear qi2
   try clear c3
   try clear c3b0
   try clear c3b1
   try clear hx2200_0
   try clear hx2200_1
   try clear p2200
   try clear q2200
   obtain ⟨x6_1, x7_1, x18_1, rfl, rfl, rfl, HA, HK1, BK2199, HB⟩ := hrel
   cases gk with
   | zero => exact absurd HA.out (by simp [impl_extent.l0])
   | succ k1 =>
    have H := HA.out
    clear HA
    simp only [impl_extent.l0] at H
    by_cases c8 : x18_1 < (l0.length : Int)
    ·rw [if_pos c8] at H
     have c8b0 : decide (x18_1 < (l0.length : Int)) = true := decide_eq_true c8
     clear c8
     by_cases c9 : 0 ≤ x18_1
     ·rw [if_pos c9] at H
      have c9b0 : decide (0 ≤ x18_1) = true := decide_eq_true c9
      clear c9
      by_cases c10 : x18_1 < (l0.length : Int)
      ·rw [if_pos c10] at H
       have c10b0 : decide (x18_1 < (l0.length : Int)) = true := decide_eq_true c10
       clear c10
       replace H := Option.bind_eq_some_iff.mp H
       obtain ⟨t2204, A110, H⟩ := H
       replace H : ((impl_value.f a1_0 a1_1 ((rd_T26 l0 x18_1).f0) ((rd_T26 l0 x18_1).f1)).bind fun t2205 => (impl_extent.l0 k1 (mn x6_1 t2204) (mx x7_1 t2205) l0 (l0.length : Int) (wrap64 (x18_1 + 1)) a1_0 a1_1)) = some (r1, r2) := H
       have A11 := Aside0.mk A110
       clear A110
       obtain ⟨ji12, hji12⟩ : ∃ j_ : Int, (mn x6_1 t2204) = j_ := ⟨_, rfl⟩
       replace H : ((impl_value.f a1_0 a1_1 ((rd_T26 l0 x18_1).f0) ((rd_T26 l0 x18_1).f1)).bind fun t2205 => (impl_extent.l0 k1 ji12 (mx x7_1 t2205) l0 (l0.length : Int) (wrap64 (x18_1 + 1)) a1_0 a1_1)) = some (r1, r2) := by first | (rw [hji12] at H; exact H) | (simp only [hji12] at H ⊢; exact H)
       (try rw [hji12] at A11)
       have hji12_ : (if t2204 < x6_1 then t2204 else x6_1) = ji12 := hji12
       replace H := Option.bind_eq_some_iff.mp H
       obtain ⟨t2205, A130, H⟩ := H
       replace H : (impl_extent.l0 k1 ji12 (mx x7_1 t2205) l0 (l0.length : Int) (wrap64 (x18_1 + 1)) a1_0 a1_1) = some (r1, r2) := H
       have A13 := Aside0.mk A130
       clear A130
       obtain ⟨ji14, hji14⟩ : ∃ j_ : Int, (mx x7_1 t2205) = j_ := ⟨_, rfl⟩
       replace H : (impl_extent.l0 k1 ji12 ji14 l0 (l0.length : Int) (wrap64 (x18_1 + 1)) a1_0 a1_1) = some (r1, r2) := by first | (rw [hji14] at H; exact H) | (simp only [hji14] at H ⊢; exact H)
       (try rw [hji14] at A11)
       (try rw [hji14] at A13)
       have hji14_ : (if x7_1 < t2205 then t2205 else x7_1) = ji14 := hji14
       have H' := Aside0.mk H
       clear H
       have p2202 : 0 ≤ (x18_1 : Int) := of_decide_eq_true (by first | (with_reducible assumption) | assumption)
       have q2202 : x18_1 < (l0.length : Int) := of_decide_eq_true (by first | (with_reducible assumption) | assumption)
       obtain ⟨ad2202, e2202, hx2202_0, hx2202_1⟩ := at_T26 HR0.out x18_1 p2202 q2202
       obtain rfl : ad2200 = ad2202 := (by injection e2202)
       replace hx2202_0 := zc HB hx2202_0
       replace hx2202_1 := zc HB hx2202_1
       replace p2202 := eq_true p2202
       replace q2202 := eq_true q2202
       try go_wp2_with (first | ((with_reducible refine gate_dst (N := 9) rfl ?_); refine box_event ?hg (N := 9) ?hd (cs := #[.int .i64 0, .int .i64 0]) (t := 26) ?hr ?_; (case hd => rfl); (case hg => rfl); (case hr => first | (go_simp; done) | (go_simp; rfl)); intro gb2203 hg w15 hbox hb; have n0_ := Aside0.mk (blk_below (g := gb2199) (o := .cells #[.int .i64 a1_0, .int .i64 a1_1] 26 (0, 0)) zk hb); have n1_ := Aside0.mk (below_step zb hb); have n2_ := Aside0.mk (hbox); have n3_ := Aside0.mk ((by rw [hg]; exact (below_size zb) : w.heap.size ≤ gb2203)); have n4_ := Aside0.mk ((by rw [hg]; exact (below_size zb) : w.heap.size ≤ gb2203)); have n5_ := Aside0.mk ((by rw [hg]; exact Nat.ne_of_lt (blk_lt (g := gb2199) (o := .cells #[.int .i64 a1_0, .int .i64 a1_1] 26 (0, 0)) zk) : gb2199 ≠ gb2203)); have n6_ := Aside0.mk ((by rw [hg]; exact Nat.ne_of_gt (blk_lt (g := gb2199) (o := .cells #[.int .i64 a1_0, .int .i64 a1_1] 26 (0, 0)) zk) : gb2203 ≠ gb2199)); clear BK2199; clear HB; have BK2199 := n0_; have HB := n1_; have BK2203 := n2_; have GW2203 := n3_; have GE2203 := n4_; have NB2199_2203 := n5_; have NB2203_2199 := n6_; clear n0_ n1_ n2_ n3_ n4_ n5_ n6_; clear hb hbox hg; have hnb16 := NB2203_2199.out; have hnc16 := NB2199_2203.out; have hcz17_0 : w15.cell? ⟨gb2203, 0, none⟩ = some (.int .i64 0) := (blk_cell BK2203.out 0).trans rfl; have hcz17_1 : w15.cell? ⟨gb2203, 1, none⟩ = some (.int .i64 0) := (blk_cell BK2203.out 1).trans rfl; have hfz17_0 := blk_frozen BK2203.out 0; have hfz17_1 := blk_frozen BK2203.out 1))
       have n0_ : Aside0 (((w15.setCell ⟨gb2203, 0, none⟩ (.int .i64 ((rd_T26 l0 x18_1).f0))).setCell ⟨gb2203, 1, none⟩ (.int .i64 ((rd_T26 l0 x18_1).f1))).heap[gb2199]? = some (.cells #[.int .i64 a1_0, .int .i64 a1_1] 26 (0, 0))) := ⟨by (with_reducible repeat (first | refine blk_drewN ?_ _ | refine blk_drew ?_ | refine blk_alloc ?_ _)); refine blk_far ?_ NB2199_2203.out _; (with_reducible repeat (first | refine blk_drewN ?_ _ | refine blk_drew ?_ | refine blk_alloc ?_ _)); refine blk_far ?_ NB2199_2203.out _; (with_reducible repeat (first | refine blk_drewN ?_ _ | refine blk_drew ?_ | refine blk_alloc ?_ _)); exact BK2199.out⟩
       have n1_ : Aside0 (((w15.setCell ⟨gb2203, 0, none⟩ (.int .i64 ((rd_T26 l0 x18_1).f0))).setCell ⟨gb2203, 1, none⟩ (.int .i64 ((rd_T26 l0 x18_1).f1))).heap[gb2203]? = some (.cells #[.int .i64 ((rd_T26 l0 x18_1).f0), .int .i64 ((rd_T26 l0 x18_1).f1)] 26 (0, 0))) := ⟨by (with_reducible repeat (first | refine blk_drewN ?_ _ | refine blk_drew ?_ | refine blk_alloc ?_ _)); refine blk_put (cs := #[.int .i64 ((rd_T26 l0 x18_1).f0), .int .i64 0]) ?_ 1 _ rfl; (with_reducible repeat (first | refine blk_drewN ?_ _ | refine blk_drew ?_ | refine blk_alloc ?_ _)); refine blk_put (cs := #[.int .i64 0, .int .i64 0]) ?_ 0 _ rfl; (with_reducible repeat (first | refine blk_drewN ?_ _ | refine blk_drew ?_ | refine blk_alloc ?_ _)); exact BK2203.out⟩
       have n2_ : Aside0 (Below w.heap.size w ((w15.setCell ⟨gb2203, 0, none⟩ (.int .i64 ((rd_T26 l0 x18_1).f0))).setCell ⟨gb2203, 1, none⟩ (.int .i64 ((rd_T26 l0 x18_1).f1)))) := ⟨zb⟩
       (try clear BK2199)
       (try clear BK2203)
       (try clear HB)
       generalize ((w15.setCell ⟨gb2203, 0, none⟩ (.int .i64 ((rd_T26 l0 x18_1).f0))).setCell ⟨gb2203, 1, none⟩ (.int .i64 ((rd_T26 l0 x18_1).f1))) = w18 at n0_ n1_ n2_ ⊢
       have BK2199 := n0_
       have BK2203 := n1_
       have HB := n2_
       clear n0_ n1_ n2_
       have n0_ := Aside0.mk (blk_drew BK2199.out)
       have n1_ := Aside0.mk (blk_drew BK2203.out)
       have n2_ := Aside0.mk (below_drew1 HB.out)
       clear BK2199
       clear BK2203
       clear HB
       have BK2199 := n0_
       have BK2203 := n1_
       have HB := n2_
       clear n0_ n1_ n2_
       refine start_ (n := 12) (S := fun w' => w'.cell? ⟨gb2199, 0, none⟩ = some (.int .i64 a1_0) ∧ w'.cell? ⟨gb2199, 1, none⟩ = some (.int .i64 a1_1) ∧ w'.cell? ⟨gb2203, 0, none⟩ = some (.int .i64 ((rd_T26 l0 x18_1).f0)) ∧ w'.cell? ⟨gb2203, 1, none⟩ = some (.int .i64 ((rd_T26 l0 x18_1).f1))) (ds := []) (zl 12 0) (by kernel_rfl) rfl rfl ⟨(blk_cell BK2199.out 0).trans rfl, (blk_cell BK2199.out 1).trans rfl, (blk_cell BK2203.out 0).trans rfl, (blk_cell BK2203.out 1).trans rfl⟩ (fun hHeld => ?_); refine with_tabW impl_extent.tab6 impl_extent.bits6 (fun HT_ HW_ => ?_)
       generalize w18.drew = w19 at BK2199 BK2203 HB hHeld ⊢
       refine zp 0 22 12 1 HT_ ?_
       refine zp 5 27 12 33 HT_ ?_
       refine take_ (i := 1) (N := some 23) (v := ?_) (a' := ?_) (zl 12 35) rfl rfl (take_ofW HT_.out HW_.out (by kernel_rfl)) (fun _ _ _ h => h) (Or.inl ⟨by rfl, ?_⟩) hHeld ?_ ?_
       rotate_left
       ·rintro w' ⟨s0, s1, s2, s3⟩
        go_simp
        with_reducible rfl
       rotate_left
       ·exact zs
       refine take_ (i := 2) (N := some 24) (v := ?_) (a' := ?_) (zl 12 39) rfl rfl (take_ofW HT_.out HW_.out (by kernel_rfl)) (fun _ _ _ h => h) (Or.inl ⟨by rfl, ?_⟩) hHeld ?_ ?_
       rotate_left
       ·rintro w' ⟨s0, s1, s2, s3⟩
        go_simp
        with_reducible rfl
       rotate_left
       ·exact zs
       refine take_ (i := 6) (N := some 28) (v := ?_) (a' := ?_) (zl 12 103) rfl rfl (take_ofW HT_.out HW_.out (by kernel_rfl)) (fun _ _ _ h => h) (Or.inl ⟨by rfl, ?_⟩) hHeld ?_ ?_
       rotate_left
       ·rintro w' ⟨s0, s1, s2, s3⟩
        go_simp
        with_reducible rfl
       rotate_left
       ·exact zs
       refine take_ (i := 7) (N := some 29) (v := ?_) (a' := ?_) (zl 12 231) rfl rfl (take_ofW HT_.out HW_.out (by kernel_rfl)) (fun _ _ _ h => h) (Or.inl ⟨by rfl, ?_⟩) hHeld ?_ ?_
       rotate_left
       ·rintro w' ⟨s0, s1, s2, s3⟩
        go_simp
        with_reducible rfl
       rotate_left
       ·exact zs
       refine one_ (i := 3) (N := some 25) (zl 12 239) rfl rfl (one_of HT_.out (by kernel_rfl)) (by decide) (fun K hK => ?_)
       refine goes_ Try.func298 (by kernel_rfl) rfl #[.agg #[.int .i64 a1_0, .int .i64 a1_1], .agg #[.int .i64 ((rd_T26 l0 x18_1).f0), .int .i64 ((rd_T26 l0 x18_1).f1)]] (by rfl) rfl rfl zn ?_
       with_reducible refine (impl_value.calls a1_0 a1_1 ((rd_T26 l0 x18_1).f0) ((rd_T26 l0 x18_1).f1) t2204 _ A11.out).mono ?_
       rintro e w20 ⟨rfl, hb⟩
       refine ⟨_, rfl, ?_⟩
       have n0_ := Aside0.mk (blk_below (g := gb2199) (o := .cells #[.int .i64 a1_0, .int .i64 a1_1] 26 (0, 0)) zk hb)
       have n1_ := Aside0.mk (blk_below (g := gb2203) (o := .cells #[.int .i64 ((rd_T26 l0 x18_1).f0), .int .i64 ((rd_T26 l0 x18_1).f1)] 26 (0, 0)) zk hb)
       have n2_ := Aside0.mk (below_step zb hb)
       clear BK2199
       clear BK2203
       clear HB
       have BK2199 := n0_
       have BK2203 := n1_
       have HB := n2_
       clear n0_ n1_ n2_
       (try clear hb)
       (try clear hb2)
       (try clear hk)
       (try clear hi)
       refine hK.out _ _ ⟨(blk_cell BK2199.out 0).trans rfl, (blk_cell BK2199.out 1).trans rfl, (blk_cell BK2203.out 0).trans rfl, (blk_cell BK2203.out 1).trans rfl⟩ (fun hHeld => ?_)
       clear hK K
       refine norm_ (a' := ?_) ?_ ?_
       rotate_left
       ·show Act.put _ (some 25) _ = _
        exact zs
       refine zp 4 26 12 255 HT_ ?_
       refine one_ (i := 8) (N := some 30) (zl 12 511) rfl rfl (one_of HT_.out (by kernel_rfl)) (by decide) (fun K hK => ?_)
       refine goes_ Try.func298 (by kernel_rfl) rfl #[.agg #[.int .i64 a1_0, .int .i64 a1_1], .agg #[.int .i64 ((rd_T26 l0 x18_1).f0), .int .i64 ((rd_T26 l0 x18_1).f1)]] (by rfl) rfl rfl zn ?_
       with_reducible refine (impl_value.calls a1_0 a1_1 ((rd_T26 l0 x18_1).f0) ((rd_T26 l0 x18_1).f1) t2205 _ A13.out).mono ?_
       rintro e w21 ⟨rfl, hb⟩
       refine ⟨_, rfl, ?_⟩
       have n0_ := Aside0.mk (blk_below (g := gb2199) (o := .cells #[.int .i64 a1_0, .int .i64 a1_1] 26 (0, 0)) zk hb)
       have n1_ := Aside0.mk (blk_below (g := gb2203) (o := .cells #[.int .i64 ((rd_T26 l0 x18_1).f0), .int .i64 ((rd_T26 l0 x18_1).f1)] 26 (0, 0)) zk hb)
       have n2_ := Aside0.mk (below_step zb hb)
       clear BK2199
       clear BK2203
       clear HB
       have BK2199 := n0_
       have BK2203 := n1_
       have HB := n2_
       clear n0_ n1_ n2_
       (try clear hb)
       (try clear hb2)
       (try clear hk)
       (try clear hi)
       refine hK.out _ _ ⟨(blk_cell BK2199.out 0).trans rfl, (blk_cell BK2199.out 1).trans rfl, (blk_cell BK2203.out 0).trans rfl, (blk_cell BK2203.out 1).trans rfl⟩ (fun hHeld => ?_)
       clear hK K
       refine norm_ (a' := ?_) ?_ ?_
       rotate_left
       ·show Act.put _ (some 30) _ = _
        exact zs
       refine zp 9 31 12 1023 HT_ ?_
       refine zp 10 6 12 2047 HT_ ?_
       refine zp 11 7 12 4095 HT_ ?_
       refine done_ (done_of HT_.out (by kernel_rfl)) ?_
       try go_wp2
       go_roundg k1
       case measure => have := HK1.out; omega
       case rel => exact ⟨(ji12), (ji14), (wrap64 (x18_1 + 1)), (by first | rfl | (simp; done) | (simp only [← hji12] <;> (first | rfl | simp)) | (simp [*]; done)), (by first | rfl | (simp; done) | (simp only [← hji14] <;> (first | rfl | simp)) | (simp [*]; done)), (by first | rfl | (simp; done) | (simp [*]; done)), H', ⟨by have := HK1.out; omega⟩, ⟨zk⟩, ⟨zb⟩⟩
      ·rw [if_neg c10] at H
       exact absurd H (by simp)
     ·rw [if_neg c9] at H
      exact absurd H (by simp)
    ·rw [if_neg c8] at H
     have c8b0 : decide (x18_1 < (l0.length : Int)) = false := decide_eq_false c8
     clear c8
     simp only [Option.some.injEq, Prod.mk.injEq] at H
     obtain ⟨rfl, rfl⟩ := H
     go_wp2
     go_ret2
     exact ⟨by first | rfl | (simp [errW_none, errW_some] <;> rfl) | (simp [*, errW_none, errW_some] <;> rfl), zb⟩
 ·rw [if_neg c3] at H
  exact absurd H (by simp)
def impl_width.f (k : Nat) (l0 : List (S26)) (a1_0 : Int) (a1_1 : Int) : Option (Int) := (impl_extent.f k l0 a1_0 a1_1).bind fun bt2207 => (some (wrap64 (bt2207.2 - bt2207.1)))
set_option maxHeartbeats 8000000 in
set_option maxRecDepth 100000 in
theorem impl_width.calls (k : Nat) (A0 : Option Addr) (c0 : Nat) (l0 : List (S26)) (a1_0 : Int) (a1_1 : Int) (r : Int) (w : World) (hr0 : Kd.C k26 w A0 l0.length l0) (hc0 : l0.length ≤ c0) (h : impl_width.f k l0 a1_0 a1_1 = some r) :
  Calls Try.prog 261 #[.slice A0 l0.length c0, .agg #[.int .i64 a1_0, .int .i64 a1_1]] w fun e w' => e = .returned (.int .i64 r) ∧ Below w.heap.size w w' := by
 have hu26 := Try.underlying26
 have HR0 := Aside0.mk hr0
 have HC0 := Aside0.mk hc0
 clear hr0 hc0
 have HB := Aside0.mk (Below.refl w.heap.size w)
 have H : ((impl_extent.f k l0 a1_0 a1_1).bind fun bt2207 => (some (wrap64 (bt2207.2 - bt2207.1)))) = some r := h
 clear h
 replace H := Option.bind_eq_some_iff.mp H
 obtain ⟨⟨t2207, t2208⟩, A30, H⟩ := H
 replace H : (some (wrap64 (t2208 - t2207))) = some r := H
 have A3 := Aside0.mk A30
 clear A30
 obtain rfl := Option.some.inj H
 go_enter Try.func261, Try.ntmps261
 go_wp2_with (first | ((with_reducible refine gate_dst (N := 3) rfl ?_); refine box_event ?hg (N := 3) ?hd (cs := #[.int .i64 a1_0, .int .i64 a1_1]) (t := 26) ?hr ?_; (case hd => rfl); (case hg => rfl); (case hr => first | (go_simp; done) | (go_simp; rfl)); intro gb2206 hg w4 hbox hb; have n0_ := Aside0.mk (below_step zb hb); have n1_ := Aside0.mk (hbox); have n2_ := Aside0.mk ((by rw [hg]; exact (below_size zb) : w.heap.size ≤ gb2206)); have n3_ := Aside0.mk ((by rw [hg]; exact (below_size zb) : w.heap.size ≤ gb2206)); clear HB; have HB := n0_; have BK2206 := n1_; have GW2206 := n2_; have GE2206 := n3_; clear n0_ n1_ n2_ n3_; clear hb hbox hg; have hcz5_0 : w4.cell? ⟨gb2206, 0, none⟩ = some (.int .i64 a1_0) := (blk_cell BK2206.out 0).trans rfl; have hcz5_1 : w4.cell? ⟨gb2206, 1, none⟩ = some (.int .i64 a1_1) := (blk_cell BK2206.out 1).trans rfl; have hfz5_0 := blk_frozen BK2206.out 0; have hfz5_1 := blk_frozen BK2206.out 1) | ((with_reducible refine gate_callee (f := 288) rfl ?_); refine goesL_ (some 10) rfl rfl Try.func288 (by kernel_rfl) rfl #[.slice A0 l0.length c0, .agg #[.int .i64 a1_0, .int .i64 a1_1]] rfl zn ?_; (with_reducible refine (impl_extent.calls k _ _ l0 a1_0 a1_1 t2207 t2208 _ ?side1 ?side2 A3.out).mono ?_); (case side1 => repeat (first | exact (Kd.C_below HR0.out HB.out) | (with_reducible refine Kd.C_alloc ?_ _) | (with_reducible refine Kd.C_drewN ?_ _) | (with_reducible refine Kd.C_drew ?_))); (case side2 => exact HC0.out); rintro e w6 ⟨rfl, hb⟩; refine ⟨_, rfl, ?_⟩; have n0_ := Aside0.mk (blk_below (g := gb2206) (o := .cells #[.int .i64 a1_0, .int .i64 a1_1] 26 (0, 0)) zk hb); have n1_ := Aside0.mk (below_step zb hb); clear BK2206; clear HB; have BK2206 := n0_; have HB := n1_; clear n0_ n1_; (try clear hb); (try clear hb2); (try clear hk); (try clear hi)))
 go_ret
 exact ⟨by first | rfl | (simp [errW_none, errW_some] <;> rfl) | (simp [*, errW_none, errW_some] <;> rfl), zb⟩
end Go.Proofs.Ytphpdfcblchpnaa.Q
namespace Go.Proofs.Ytphpdfcblchpnaa.Q
open Go.RowKit Go.Proofs.YtphpdfcblchpnaaW.PrintWords Go.Proofs.YtphpdfcblchpnaaW.PrintLast Go.Proofs.YtphpdfcblchpnaaW.PrintMore
attribute [local go_sem] max2_int min2_int max_two min_two max_three min_three max_four min_four   -- for this text's walks alone
set_option linter.unusedVariables false
set_option linter.unusedSimpArgs false
def spec_wiLeast.l0 : Nat → List (S26) → Int → Option (Int × (List (List Int)))
 | 0, _, _ => none
 | k + 1, x0, x4 => (spec_wiAll.f k x0 x4).bind fun t2246 => (if (t2246.length : Int) > 0 then (some (x4, t2246)) else (spec_wiLeast.l0 k x0 (wrap64 (x4 + 1))))
def spec_wiLeast.f (k : Nat) (l0 : List (S26)) : Option (Int × (List (List Int))) := spec_wiLeast.l0 k l0 1
set_option maxHeartbeats 8000000 in
set_option maxRecDepth 100000 in
theorem spec_wiLeast.calls (k : Nat) (A0 : Option Addr) (c0 : Nat) (l0 : List (S26)) (r1 : Int) (r2 : List (List Int)) (w : World) (hr0 : Kd.C k26 w A0 l0.length l0) (hc0 : l0.length ≤ c0) (h : spec_wiLeast.f k l0 = some (r1, r2)) :
  Calls Try.prog 221 #[.slice A0 l0.length c0] w fun e w' => ∃ v1_ : Value, e = .returned (.tuple #[.int .i64 r1, v1_]) ∧ Kd.N (Kd.slice 3 (Kd.int .i64)) 29 w' w.heap.size (fun k_ => (w.heap.size ≤ k_)) v1_ r2 ∧ Below w.heap.size w w' := by
 have HR0 := Aside0.mk hr0
 have HC0 := Aside0.mk hc0
 clear hr0 hc0
 have HB := Aside0.mk (Below.refl w.heap.size w)
 have H : (spec_wiLeast.l0 k l0 1) = some (r1, r2) := h
 clear h
 have H' := Aside0.mk H
 clear H
 go_enter Try.func221, Try.ntmps221
 go_wp2
 go_loopg [4] k (fun kq v4 w' => ∃ (x4_1 : Int), v4 = .int .i64 x4_1 ∧ Aside0 (spec_wiLeast.l0 kq l0 x4_1 = some (r1, r2)) ∧ Aside0 (kq ≤ k) ∧ Aside0 (Below w.heap.size w w'))
 case atStart => exact ⟨(1), (by first | rfl | (simp; done) | (simp [*]; done)), H', ⟨Nat.le_refl _⟩, ⟨zb⟩⟩
 case round =>
  clear H'
  obtain ⟨x4_1, rfl, HA, HK1, HB⟩ := hrel
  cases gk with
  | zero => exact absurd HA.out (by simp [spec_wiLeast.l0])
  | succ k1 =>
   have H := HA.out
   clear HA
   simp only [spec_wiLeast.l0] at H
   replace H := Option.bind_eq_some_iff.mp H
   obtain ⟨t2246, A20, H⟩ := H
   replace H : (if (t2246.length : Int) > 0 then (some (x4_1, t2246)) else (spec_wiLeast.l0 k1 l0 (wrap64 (x4_1 + 1)))) = some (r1, r2) := H
   have A2 := Aside0.mk A20
   clear A20
   by_cases c3 : (t2246.length : Int) > 0
   ·rw [if_pos c3] at H
    have c3b0 : decide (0 < (t2246.length : Int)) = true := decide_eq_true c3
    have c3b1 : decide (0 < t2246.length) = true := decide_eq_true (by omega)
    clear c3
    simp only [Option.some.injEq, Prod.mk.injEq] at H
    obtain ⟨rfl, rfl⟩ := H
    go_wp2_with (first | ((with_reducible refine gate_callee (f := 220) rfl ?_); refine goesL_ (some 10) rfl rfl Try.func220 (by kernel_rfl) rfl #[.slice A0 l0.length c0, .int .i64 x4_1] rfl zn ?_; (with_reducible refine (spec_wiAll.calls k1 _ _ l0 x4_1 t2246 _ ?side1 ?side2 A2.out).mono ?_); (case side1 => repeat (first | exact (Kd.C_below HR0.out HB.out) | (with_reducible refine Kd.C_alloc ?_ _) | (with_reducible refine Kd.C_drewN ?_ _) | (with_reducible refine Kd.C_drew ?_))); (case side2 => exact HC0.out); rintro e w4 ⟨v2247, rfl, ho0, hb⟩; refine ⟨_, rfl, ?_⟩; have n0_ := Aside0.mk (Kd.N_lower (Kd.N_mono (ok' := fun k_ => (w.heap.size ≤ k_)) ho0 (fun k_ hk_ => (Nat.le_trans (below_size zb) hk_))) (below_size zb)); have n1_ := Aside0.mk (below_step zb hb); clear HB; have HO2248 := n0_; have HB := n1_; clear n0_ n1_; (try clear hb); (try clear hb2); (try clear hk); (try clear hi); (try clear ho0); obtain ⟨Ao5, co5, eo5⟩ := Kd.N_slice HO2248.out; subst eo5))
    go_ret2
    exact ⟨_, by first | rfl | (simp [errW_none, errW_some] <;> rfl) | (simp [*, errW_none, errW_some] <;> rfl), by (with_reducible repeat (first | apply Kd.N_alloc | apply Kd.N_drewN | apply Kd.N_drew)); exact HO2248.out, zb⟩
   ·rw [if_neg c3] at H
    have c3b0 : decide (0 < (t2246.length : Int)) = false := decide_eq_false c3
    have c3b1 : decide (0 < t2246.length) = false := decide_eq_false (by omega)
    clear c3
    have H' := Aside0.mk H
    clear H
    go_wp2_with (first | ((with_reducible refine gate_callee (f := 220) rfl ?_); refine goesL_ (some 10) rfl rfl Try.func220 (by kernel_rfl) rfl #[.slice A0 l0.length c0, .int .i64 x4_1] rfl zn ?_; (with_reducible refine (spec_wiAll.calls k1 _ _ l0 x4_1 t2246 _ ?side1 ?side2 A2.out).mono ?_); (case side1 => repeat (first | exact (Kd.C_below HR0.out HB.out) | (with_reducible refine Kd.C_alloc ?_ _) | (with_reducible refine Kd.C_drewN ?_ _) | (with_reducible refine Kd.C_drew ?_))); (case side2 => exact HC0.out); rintro e w6 ⟨v2247, rfl, ho0, hb⟩; refine ⟨_, rfl, ?_⟩; have n0_ := Aside0.mk (Kd.N_lower (Kd.N_mono (ok' := fun k_ => (w.heap.size ≤ k_)) ho0 (fun k_ hk_ => (Nat.le_trans (below_size zb) hk_))) (below_size zb)); have n1_ := Aside0.mk (below_step zb hb); clear HB; have HO2248 := n0_; have HB := n1_; clear n0_ n1_; (try clear hb); (try clear hb2); (try clear hk); (try clear hi); (try clear ho0); obtain ⟨Ao7, co7, eo7⟩ := Kd.N_slice HO2248.out; subst eo7))
    go_roundg k1
    case measure => have := HK1.out; omega
    case rel => exact ⟨(wrap64 (x4_1 + 1)), (by first | rfl | (simp; done) | (simp [*]; done)), H', ⟨by have := HK1.out; omega⟩, ⟨zb⟩⟩
def spec_LeastWidth.f (k : Nat) (l0 : List (S26)) : Option (Int × Bool) := (spec_pgGood.f k l0).bind fun t2249 => (if t2249 = true then ((spec_wiLeast.f k l0).bind fun bt2250 => (some (bt2250.1, true))) else (some (0, false)))
set_option maxHeartbeats 8000000 in
set_option maxRecDepth 100000 in
theorem spec_LeastWidth.calls (k : Nat) (A0 : Option Addr) (c0 : Nat) (l0 : List (S26)) (r1 : Int) (r2 : Bool) (w : World) (hr0 : Kd.C k26 w A0 l0.length l0) (hc0 : l0.length ≤ c0) (h : spec_LeastWidth.f k l0 = some (r1, r2)) :
  Calls Try.prog 122 #[.slice A0 l0.length c0] w fun e w' => e = .returned (.tuple #[.int .i64 r1, .bool r2]) ∧ Below w.heap.size w w' := by
 have HR0 := Aside0.mk hr0
 have HC0 := Aside0.mk hc0
 clear hr0 hc0
 have HB := Aside0.mk (Below.refl w.heap.size w)
 have H : ((spec_pgGood.f k l0).bind fun t2249 => (if t2249 = true then ((spec_wiLeast.f k l0).bind fun bt2250 => (some (bt2250.1, true))) else (some (0, false)))) = some (r1, r2) := h
 clear h
 replace H := Option.bind_eq_some_iff.mp H
 obtain ⟨t2249, A20, H⟩ := H
 replace H : (if t2249 = true then ((spec_wiLeast.f k l0).bind fun bt2250 => (some (bt2250.1, true))) else (some (0, false))) = some (r1, r2) := H
 have A2 := Aside0.mk A20
 clear A20
 by_cases c3 : t2249 = true
 ·subst c3
  have H1 : ((spec_wiLeast.f k l0).bind fun bt2250 => (some (bt2250.1, true))) = some (r1, r2) := by rw [if_pos rfl] at H; exact H
  clear H
  have H := H1
  clear H1
  replace H := Option.bind_eq_some_iff.mp H
  obtain ⟨⟨t2250, t2251⟩, A40, H⟩ := H
  replace H : (some (t2250, true)) = some (r1, r2) := H
  have A4 := Aside0.mk A40
  clear A40
  simp only [Option.some.injEq, Prod.mk.injEq] at H
  obtain ⟨rfl, rfl⟩ := H
  go_enter Try.func122, Try.ntmps122
  go_wp2_with (first | ((with_reducible refine gate_callee (f := 163) rfl ?_); refine goesL_ (some 7) rfl rfl Try.func163 (by kernel_rfl) rfl #[.slice A0 l0.length c0] rfl zn ?_; (with_reducible refine (spec_pgGood.calls k _ _ l0 true _ ?side1 ?side2 A2.out).mono ?_); (case side1 => repeat (first | exact HR0.out | (with_reducible refine Kd.C_alloc ?_ _) | (with_reducible refine Kd.C_drewN ?_ _) | (with_reducible refine Kd.C_drew ?_))); (case side2 => exact HC0.out); rintro e w5 ⟨rfl, hb⟩; refine ⟨_, rfl, ?_⟩; have n0_ := Aside0.mk (below_step zb hb); clear HB; have HB := n0_; clear n0_; (try clear hb); (try clear hb2); (try clear hk); (try clear hi)) | ((with_reducible refine gate_callee (f := 221) rfl ?_); refine goesL_ (some 11) rfl rfl Try.func221 (by kernel_rfl) rfl #[.slice A0 l0.length c0] rfl zn ?_; (with_reducible refine (spec_wiLeast.calls k _ _ l0 t2250 t2251 _ ?side1 ?side2 A4.out).mono ?_); (case side1 => repeat (first | exact (Kd.C_below HR0.out HB.out) | (with_reducible refine Kd.C_alloc ?_ _) | (with_reducible refine Kd.C_drewN ?_ _) | (with_reducible refine Kd.C_drew ?_))); (case side2 => exact HC0.out); rintro e w6 ⟨v2252, rfl, ho0, hb⟩; refine ⟨_, rfl, ?_⟩; have n0_ := Aside0.mk (Kd.N_lower (Kd.N_mono (ok' := fun k_ => True) ho0 (fun k_ hk_ => trivial)) (below_size zb)); have n1_ := Aside0.mk (below_step zb hb); clear HB; have HO2253 := n0_; have HB := n1_; clear n0_ n1_; (try clear hb); (try clear hb2); (try clear hk); (try clear hi); (try clear ho0)))
  go_ret2
  exact ⟨by first | rfl | (simp [errW_none, errW_some] <;> rfl) | (simp [*, errW_none, errW_some] <;> rfl), zb⟩
 ·replace c3 := Bool.eq_false_iff.mpr c3
  subst c3
  have H1 : (some (0, false)) = some (r1, r2) := by rw [if_neg (show ¬ (false = true) by decide)] at H; exact H
  clear H
  have H := H1
  clear H1
  simp only [Option.some.injEq, Prod.mk.injEq] at H
  obtain ⟨rfl, rfl⟩ := H
  go_enter Try.func122, Try.ntmps122
  go_wp2_with (first | ((with_reducible refine gate_callee (f := 163) rfl ?_); refine goesL_ (some 7) rfl rfl Try.func163 (by kernel_rfl) rfl #[.slice A0 l0.length c0] rfl zn ?_; (with_reducible refine (spec_pgGood.calls k _ _ l0 false _ ?side1 ?side2 A2.out).mono ?_); (case side1 => repeat (first | exact HR0.out | (with_reducible refine Kd.C_alloc ?_ _) | (with_reducible refine Kd.C_drewN ?_ _) | (with_reducible refine Kd.C_drew ?_))); (case side2 => exact HC0.out); rintro e w7 ⟨rfl, hb⟩; refine ⟨_, rfl, ?_⟩; have n0_ := Aside0.mk (below_step zb hb); clear HB; have HB := n0_; clear n0_; (try clear hb); (try clear hb2); (try clear hk); (try clear hi)))
  go_ret2
  exact ⟨by first | rfl | (simp [errW_none, errW_some] <;> rfl) | (simp [*, errW_none, errW_some] <;> rfl), zb⟩
end Go.Proofs.Ytphpdfcblchpnaa.Q
namespace Go.Proofs.Ytphpdfcblchpnaa.M
abbrev Pg := Int × Int
def turn (a b c : Pg) : Int := (b.1 - a.1) * (c.2 - a.2) - (b.2 - a.2) * (c.1 - a.1)
def sgn (x : Int) : Int := if 0 < x then 1 else if x < 0 then -1 else 0
def onSeg (a b p : Pg) : Prop := turn a b p = 0 ∧ min a.1 b.1 ≤ p.1 ∧ p.1 ≤ max a.1 b.1 ∧ min a.2 b.2 ≤ p.2 ∧ p.2 ≤ max a.2 b.2
instance (a b p : Pg) : Decidable (onSeg a b p) := by unfold onSeg; infer_instance
def cross4 (a b c d : Pg) : Prop := sgn (turn a b c) * sgn (turn a b d) < 0 ∧ sgn (turn c d a) * sgn (turn c d b) < 0
instance (a b c d : Pg) : Decidable (cross4 a b c d) := by unfold cross4; infer_instance
def meets (a b c d : Pg) : Prop := cross4 a b c d ∨ onSeg a b c ∨ onSeg a b d ∨ onSeg c d a ∨ onSeg c d b
instance (a b c d : Pg) : Decidable (meets a b c d) := by unfold meets; infer_instance
def isPeg (p : Pg) : Prop := -40 ≤ p.1 ∧ p.1 ≤ 40 ∧ -40 ≤ p.2 ∧ p.2 ≤ 40
instance (p : Pg) : Decidable (isPeg p) := by unfold isPeg; infer_instance
def at' (l : List Pg) (i : Nat) : Pg := l.getD (i % l.length) (0, 0)
structure Poly (l : List Pg) : Prop where
  n3 : 3 ≤ l.length
  n10 : l.length ≤ 10
  pegs : ∀ p ∈ l, isPeg p
  diff : ∀ i j, j < i → i < l.length → at' l i ≠ at' l j
  turns : ∀ i, i < l.length → turn (at' l i) (at' l (i + 1)) (at' l (i + 2)) ≠ 0
  apart : ∀ i k, k + 1 < i → i < l.length → ¬ (i + 1 = l.length ∧ k = 0) → ¬ meets (at' l k) (at' l (k + 1)) (at' l i) (at' l (i + 1))
theorem mul_bd {x y A : Int} (h1 : -A ≤ x) (h2 : x ≤ A) (h3 : -A ≤ y) (h4 : y ≤ A) : -(A * A) ≤ x * y ∧ x * y ≤ A * A := by
  have a := Int.mul_nonneg (show 0 ≤ A - x by omega) (show 0 ≤ A - y by omega)
  have b := Int.mul_nonneg (show 0 ≤ A + x by omega) (show 0 ≤ A + y by omega)
  have c := Int.mul_nonneg (show 0 ≤ A - x by omega) (show 0 ≤ A + y by omega)
  have d := Int.mul_nonneg (show 0 ≤ A + x by omega) (show 0 ≤ A - y by omega)
  have e1 : (A - x) * (A - y) = A * A - A * y - x * A + x * y := by grind
  have e2 : (A + x) * (A + y) = A * A + A * y + x * A + x * y := by grind
  have e3 : (A - x) * (A + y) = A * A + A * y - x * A - x * y := by grind
  have e4 : (A + x) * (A - y) = A * A - A * y + x * A - x * y := by grind
  constructor <;> omega
theorem sgn_bd (x : Int) : sgn x = 1 ∨ sgn x = -1 ∨ sgn x = 0 := by
  unfold sgn
  split
  · exact .inl rfl
  · split <;> simp
theorem between_iff (a b p : Int) : (a - p) * (b - p) ≤ 0 ↔ min a b ≤ p ∧ p ≤ max a b := by
  constructor
  · intro h
    constructor
    · false_or_by_contra
      have := Int.mul_pos (show 0 < a - p by omega) (show 0 < b - p by omega)
      omega
    · false_or_by_contra
      have := Int.mul_pos (show 0 < p - a by omega) (show 0 < p - b by omega)
      have e : (p - a) * (p - b) = (a - p) * (b - p) := by grind
      omega
  · rintro ⟨h1, h2⟩
    by_cases h : a = p
    · subst h; simp
    by_cases h' : a ≤ p
    · have := Int.mul_nonneg (show 0 ≤ p - a by omega) (show 0 ≤ b - p by omega)
      have e : (p - a) * (b - p) = -((a - p) * (b - p)) := by grind
      omega
    · have := Int.mul_nonneg (show 0 ≤ a - p by omega) (show 0 ≤ p - b by omega)
      have e : (a - p) * (p - b) = -((a - p) * (b - p)) := by grind
      omega
end Go.Proofs.Ytphpdfcblchpnaa.M
namespace Go.Proofs.Ytphpdfcblchpnaa.M
def crosses (a b p : Pg) : Prop := (a.2 ≤ p.2 ∧ p.2 < b.2 ∧ 0 < turn a b p) ∨ (b.2 ≤ p.2 ∧ p.2 < a.2 ∧ turn a b p < 0)
instance (a b p : Pg) : Decidable (crosses a b p) := by unfold crosses; infer_instance
end Go.Proofs.Ytphpdfcblchpnaa.M
namespace Go.Proofs.Ytphpdfcblchpnaa.D
open Go.RowKit Go.Proofs.Ytphpdfcblchpnaa.Q Go.Proofs.YtphpdfcblchpnaaW.PrintWords Go.Proofs.YtphpdfcblchpnaaW.PrintLast Go.Proofs.YtphpdfcblchpnaaW.PrintMore
open Go.Proofs.Ytphpdfcblchpnaa.M
def pg (s : S26) : Pg := (s.f0, s.f1)
def pgs (l : List S26) : List Pg := l.map pg
theorem pgs_length (l : List S26) : (pgs l).length = l.length := by simp [pgs]
theorem w64 {x : Int} (h1 : -9000000000000000000 ≤ x) (h2 : x ≤ 9000000000000000000) : wrap64 x = x := by
  unfold wrap64
  omega
def B3 (p : Pg) : Prop := -1000 ≤ p.1 ∧ p.1 ≤ 1000 ∧ -1000 ≤ p.2 ∧ p.2 ≤ 1000
theorem B3_of_peg {p : Pg} (h : isPeg p) : B3 p := by
  unfold isPeg at h
  unfold B3
  omega
theorem mn_eq (a b : Int) : mn a b = min a b := by
  unfold mn
  split <;> omega
theorem mx_eq (a b : Int) : mx a b = max a b := by
  unfold mx
  split <;> omega
theorem within_eq (n a b : Int) : impl_within.f n a b = some (decide (a ≤ n ∧ n ≤ b)) := by
  unfold impl_within.f
  by_cases h : n ≥ a
  · rw [if_pos h]
    simp [show a ≤ n from h]
  · rw [if_neg h]
    simp [show ¬ a ≤ n from h]
theorem isPeg_eq (x y : Int) : impl_IsPeg.f x y = some (decide (isPeg (x, y))) := by
  unfold impl_IsPeg.f
  simp only [within_eq, Option.bind_some, decide_eq_true_eq]
  by_cases h : isPeg (x, y)
  · rw [decide_eq_true h, if_pos ⟨h.1, h.2.1⟩, decide_eq_true ⟨h.2.2.1, h.2.2.2⟩]
  · rw [decide_eq_false h]
    by_cases h1 : -40 ≤ x ∧ x ≤ 40
    · rw [if_pos h1, decide_eq_false (fun h2 => h ⟨h1.1, h1.2, h2⟩)]
    · rw [if_neg h1]
theorem tprod {a b c : Pg} (ha : B3 a) (hb : B3 b) (hc : B3 c) : -4000000 ≤ (b.1 - a.1) * (c.2 - a.2) ∧ (b.1 - a.1) * (c.2 - a.2) ≤ 4000000 ∧ -4000000 ≤ (b.2 - a.2) * (c.1 - a.1) ∧ (b.2 - a.2) * (c.1 - a.1) ≤ 4000000 := by
  unfold B3 at ha hb hc
  have h1 := mul_bd (x := b.1 - a.1) (y := c.2 - a.2) (A := 2000) (by omega) (by omega) (by omega) (by omega)
  have h2 := mul_bd (x := b.2 - a.2) (y := c.1 - a.1) (A := 2000) (by omega) (by omega) (by omega) (by omega)
  omega
theorem turn_eq {a b c : Pg} (ha : B3 a) (hb : B3 b) (hc : B3 c) : impl_turn.f a.1 a.2 b.1 b.2 c.1 c.2 = some (turn a b c) := by
  have h := tprod ha hb hc
  unfold B3 at ha hb hc
  unfold impl_turn.f impl_Peg_less.f impl_cross.f turn
  simp only [Option.bind_some]
  rw [w64 (x := b.1 - a.1) (by omega) (by omega), w64 (x := b.2 - a.2) (by omega) (by omega), w64 (x := c.1 - a.1) (by omega) (by omega), w64 (x := c.2 - a.2) (by omega) (by omega)]
  rw [w64 (x := (b.1 - a.1) * (c.2 - a.2)) (by omega) (by omega), w64 (x := (b.2 - a.2) * (c.1 - a.1)) (by omega) (by omega), w64 (by omega) (by omega)]
theorem isOn_eq {a b p : Pg} (ha : B3 a) (hb : B3 b) (hp : B3 p) : impl_isOn.f a.1 a.2 b.1 b.2 p.1 p.2 = some (decide (onSeg a b p)) := by
  unfold impl_isOn.f
  rw [turn_eq ha hb hp]
  simp only [Option.bind_some, within_eq, mn_eq, mx_eq]
  by_cases h : onSeg a b p
  · rw [decide_eq_true h, if_pos h.1, if_pos (decide_eq_true ⟨h.2.1, h.2.2.1⟩), decide_eq_true ⟨h.2.2.2.1, h.2.2.2.2⟩]
  · rw [decide_eq_false h]
    by_cases h0 : turn a b p = 0
    · rw [if_pos h0]
      by_cases h1 : min a.1 b.1 ≤ p.1 ∧ p.1 ≤ max a.1 b.1
      · rw [if_pos (decide_eq_true h1), decide_eq_false (fun h2 => h ⟨h0, h1.1, h1.2, h2⟩)]
      · rw [if_neg (by simpa using h1)]
    · rw [if_neg h0]
theorem sign_eq (x : Int) : impl_sign.f x = some (sgn x) := by
  unfold impl_sign.f sgn
  rw [mn_eq, mx_eq]
  congr 1
  split
  · omega
  · split <;> omega
theorem sgnmul_bd (x y : Int) : -1 ≤ sgn x * sgn y ∧ sgn x * sgn y ≤ 1 := by
  rcases sgn_bd x with h | h | h <;> rcases sgn_bd y with k | k | k <;> rw [h, k] <;> decide
theorem meet_eq (k : Nat) {a b c d : Pg} (ha : B3 a) (hb : B3 b) (hc : B3 c) (hd : B3 d) : impl_meet.f (k + 1) a.1 a.2 b.1 b.2 c.1 c.2 d.1 d.2 = some (decide (meets a b c d)) := by
  have j0 : ∀ x : Bool, impl_meet.j0 (k + 1) x a.1 a.2 b.1 b.2 c.1 c.2 d.1 d.2 = some (x || decide (onSeg a b c ∨ onSeg a b d ∨ onSeg c d a ∨ onSeg c d b)) := by
    intro x
    simp only [impl_meet.j0, isOn_eq ha hb hc, isOn_eq ha hb hd, isOn_eq hc hd ha, isOn_eq hc hd hb, Option.bind_some]
    cases x
    · simp only [Bool.false_or]
      by_cases h1 : onSeg a b c <;> by_cases h2 : onSeg a b d <;> by_cases h3 : onSeg c d a <;> by_cases h4 : onSeg c d b <;> simp [h1, h2, h3, h4]
    · simp
  unfold impl_meet.f
  rw [turn_eq ha hb hc, turn_eq ha hb hd, turn_eq hc hd ha, turn_eq hc hd hb]
  simp only [Option.bind_some, sign_eq, j0]
  have b1 := sgnmul_bd (turn a b c) (turn a b d)
  have b2 := sgnmul_bd (turn c d a) (turn c d b)
  rw [w64 (by omega) (by omega), w64 (by omega) (by omega)]
  unfold meets cross4
  by_cases h : sgn (turn a b c) * sgn (turn a b d) < 0
  · rw [if_pos h]
    simp [h]
  · rw [if_neg h]
    simp [h]
theorem rd_pg (l : List S26) (i : Nat) (h : i < l.length) : ((rd_T26 l (i : Int)).f0, (rd_T26 l (i : Int)).f1) = at' (pgs l) i := by
  unfold rd_T26 at' pgs
  rw [Int.toNat_natCast, List.length_map, Nat.mod_eq_of_lt h]
  simp [List.getD, h, pg]
theorem rd_f0 (l : List S26) (i : Nat) (h : i < l.length) : (rd_T26 l (i : Int)).f0 = (at' (pgs l) i).1 := by rw [← rd_pg l i h]
theorem rd_f1 (l : List S26) (i : Nat) (h : i < l.length) : (rd_T26 l (i : Int)).f1 = (at' (pgs l) i).2 := by rw [← rd_pg l i h]
theorem at'_mod (l : List Pg) (i : Nat) : at' l (i % l.length) = at' l i := by unfold at'; rw [Nat.mod_mod]
theorem tmod_nat (m n : Nat) : Int.tmod (m : Int) (n : Int) = ((m % n : Nat) : Int) := by
  rw [Int.ofNat_tmod]
theorem at_eq (l : List S26) (i : Nat) (h0 : 0 < l.length) (hl : l.length ≤ 1000000) : impl_at.f l (i : Int) = some (at' (pgs l) i) := by
  have hm : i % l.length < l.length := Nat.mod_lt _ h0
  have e : Int.tmod (wrap64 (Int.tmod (i : Int) (l.length : Int) + (l.length : Int))) (l.length : Int) = ((i % l.length : Nat) : Int) := by
    rw [tmod_nat, w64 (by omega) (by omega), ← Int.natCast_add, tmod_nat, Nat.add_mod_right, Nat.mod_mod]
  unfold impl_at.f
  rw [e, if_neg (by omega), if_pos (by omega), if_pos (by omega), rd_f0 l _ hm, rd_f1 l _ hm]
  have := at'_mod (pgs l) i
  rw [pgs_length] at this
  rw [this]
theorem at_pred (l : List S26) (i : Nat) (h2 : 2 ≤ l.length) (hl : l.length ≤ 1000000) (hi : i ≤ l.length) : impl_at.f l ((i : Int) - 1) = some (at' (pgs l) (i + l.length - 1)) := by
  have e : Int.tmod (wrap64 (Int.tmod ((i : Int) - 1) (l.length : Int) + (l.length : Int))) (l.length : Int) = (((i + l.length - 1) % l.length : Nat) : Int) := by
    have e1 : Int.tmod ((i : Int) - 1) (l.length : Int) + (l.length : Int) = ((i + l.length - 1 : Nat) : Int) := by
      by_cases h : i = 0
      · subst h
        have : Int.tmod (((0 : Nat) : Int) - 1) (l.length : Int) = -1 := by
          rw [show (((0 : Nat) : Int) - 1) = -(1 : Nat) from by omega, Int.neg_tmod, tmod_nat, Nat.mod_eq_of_lt (by omega)]
          rfl
        rw [this]
        omega
      · rw [show ((i : Int) - 1) = ((i - 1 : Nat) : Int) from by omega, tmod_nat, Nat.mod_eq_of_lt (by omega)]
        omega
    rw [e1, w64 (by omega) (by omega), tmod_nat]
  have hm : (i + l.length - 1) % l.length < l.length := Nat.mod_lt _ (by omega)
  unfold impl_at.f
  rw [e, if_neg (by omega), if_pos (by omega), if_pos (by omega), rd_f0 l _ hm, rd_f1 l _ hm]
  have := at'_mod (pgs l) (i + l.length - 1)
  rw [pgs_length] at this
  rw [this]
end Go.Proofs.Ytphpdfcblchpnaa.D
