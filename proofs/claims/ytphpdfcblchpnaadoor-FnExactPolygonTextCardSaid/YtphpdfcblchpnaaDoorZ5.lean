/- Parts of the proof: printed texts, words and own texts, cut to what is used. -/
import Derived.Below
import Derived.Carry
import Derived.ChangeOld
import Derived.Deep.DeepHandedRow
import Derived.Deep.SlicePairs
import Derived.Lib.ItoaLen
import Derived.Lib.Join
import Derived.Lib.LaidTab
import Derived.OpenShut
import Derived.ProofKit
import Derived.ShutString
import Derived.SizedLaws
import Derived.Stop.LaidErr
import Derived.Test.YtphpdfcblchpnaaDoorRows
import Derived.WalkKit
import Derived.Test.YtphpdfcblchpnaaDoorZ4
namespace Go.Proofs.YtphpdfcblchpnaaDoor.Q
open Go.RowKit Go.Proofs.YtphpdfcblchpnaaDoorW.PrintWords Go.Proofs.YtphpdfcblchpnaaDoorW.PrintLast Go.Proofs.YtphpdfcblchpnaaDoorW.PrintMore
attribute [local go_sem] max2_int min2_int max_two min_two max_three min_three max_four min_four   -- for this text's walks alone
set_option linter.unusedVariables false
set_option linter.unusedSimpArgs false
def strconv_Itoa_26.f (a0 : Int) : Option (ByteArray) := if -9223372036854775808 ≤ a0 ∧ a0 ≤ 9223372036854775807 then some (⟨(Go.Lib.itoa a0).toArray⟩ : ByteArray) else none
open Go.Proofs.YtphpdfcblchpnaaDoorI in
theorem strconv_Itoa_26.calls (a0 : Int) (r : ByteArray) (w : World) (h : strconv_Itoa_26.f a0 = some r)
  (ht : TabW w := by exact YtphpdfcblchpnaaDoorI.tab_of HTAB (by repeat (first | (with_reducible first | exact HB.out | apply below_alloc | apply pw_below_drewN | apply below_drew1 | refine below_set ?_ (Aside0.out (by assumption))) | exact HB.out))) :
  Calls Tryd.prog 26 #[.int .i64 a0] w fun e w' => e = .returned (.string r) ∧ Below w.heap.size w w' := by
 unfold strconv_Itoa_26.f at h
 by_cases c : -9223372036854775808 ≤ a0 ∧ a0 ≤ 9223372036854775807
 ·rw [if_pos c] at h
  obtain rfl := Option.some.inj h
  exact itoa_below c ht
 ·rw [if_neg c] at h
  cases h
def strings_Join.f (l0 : List (ByteArray)) (a1 : ByteArray) : Option (ByteArray) := if l0.length ≤ 140737488355328 ∧ (Go.Lib.join (l0.map (·.data.toList)) a1.data.toList).length ≤ 140737488355328 then some (⟨(Go.Lib.join (l0.map (·.data.toList)) a1.data.toList).toArray⟩ : ByteArray) else none
open Go.Proofs.YtphpdfcblchpnaaDoorI in
theorem strings_Join.calls (A0 : Option Addr) (c0 : Nat) (l0 : List (ByteArray)) (a1 : ByteArray) (r : ByteArray) (w : World) (hr0 : Kd.C Kd.string w A0 l0.length l0) (hc0 : l0.length ≤ c0) (h : strings_Join.f l0 a1 = some r) :
  Calls Tryd.prog 27 #[.slice A0 l0.length c0, .string a1] w fun e w' => e = .returned (.string r) ∧ Below w.heap.size w w' := by
 unfold strings_Join.f at h
 by_cases c : l0.length ≤ 140737488355328 ∧ (Go.Lib.join (l0.map (·.data.toList)) a1.data.toList).length ≤ 140737488355328
 ·rw [if_pos c] at h
  obtain rfl := Option.some.inj h
  exact join_below A0 c0 l0 a1 w hr0 hc0 c.1 c.2
 ·rw [if_neg c] at h
  cases h
def impl_pegsText.l0 : Nat → List ByteArray → List (S33) → Int → Int → Option (ByteArray)
 | 0, _, _, _, _ => none
 | k + 1, x3, x7, x8, x9 => if x9 < x8 then (if 0 ≤ x9 then (if x9 < (x7.length : Int) then ((strconv_Itoa_26.f ((rd_T33 x7 x9).f0)).bind fun t247 => (if t247.size + 1 ≤ 9223372036854775807 then ((strconv_Itoa_26.f ((rd_T33 x7 x9).f1)).bind fun t248 => (if (t247 ++ (⟨#[44]⟩ : ByteArray)).size + t248.size ≤ 9223372036854775807 then (if x3.length < 8796093022208 then (impl_pegsText.l0 k (x3 ++ [(t247 ++ (⟨#[44]⟩ : ByteArray)) ++ t248]) x7 x8 (wrap64 (x9 + 1))) else (none)) else (none))) else (none))) else (none)) else (none)) else ((strings_Join.f x3 (⟨#[32]⟩ : ByteArray)).bind fun t252 => (some t252))
def impl_pegsText.f (k : Nat) (l0 : List (S33)) : Option (ByteArray) := impl_pegsText.l0 k (([] : List ByteArray)) l0 (l0.length : Int) 0
def impl_pegsText.T5 : Bool × List (List Nat × List Nat) := (true, [([], []), ([], []), ([1], [1]), ([2], [2]), ([3], [3]), ([], []), ([5], [5]), ([6, 3], [6]), ([4, 7], [4, 7]), ([8], [8]), ([0, 9, 7], [0, 9]), ([10, 10, 0, 1, 2, 3, 4, 5, 6, 7, 8, 9, 10], [0, 10])])
def impl_pegsText.B5 : List Nat := [0, 0, 2, 6, 14, 0, 32, 110, 254, 510, 1023, 2047]
theorem impl_pegsText.tab5 : rtab .any (opsOf Tryd.f13 5) = impl_pegsText.T5 := by kernel_rfl
theorem impl_pegsText.bits5 : waitsOk impl_pegsText.T5.2 impl_pegsText.B5 = true := by kernel_rfl
set_option maxHeartbeats 8000000 in
set_option maxRecDepth 100000 in
theorem impl_pegsText.calls (k : Nat) (A0 : Option Addr) (c0 : Nat) (l0 : List (S33)) (r : ByteArray) (w : World) (hr0 : Kd.C k33 w A0 l0.length l0) (hc0 : l0.length ≤ c0) (h : impl_pegsText.f k l0 = some r) (htab : YtphpdfcblchpnaaDoorI.TabW w := by exact YtphpdfcblchpnaaDoorI.tab_of HTAB (by repeat (first | (with_reducible first | exact HB.out | apply below_alloc | apply pw_below_drewN | apply below_drew1 | refine below_set ?_ (Aside0.out (by assumption))) | exact HB.out))) :
  Calls Tryd.prog 13 #[.slice A0 l0.length c0] w fun e w' => e = .returned (.string r) ∧ Below w.heap.size w w' := by
 have hu33 := Tryd.underlying33
 have HTAB := Aside0.mk htab
 clear htab
 have HR0 := Aside0.mk hr0
 have HC0 := Aside0.mk hc0
 clear hr0 hc0
 have HB := Aside0.mk (Below.refl w.heap.size w)
 have H : (impl_pegsText.l0 k (([] : List ByteArray)) l0 (l0.length : Int) 0) = some r := h
 clear h
 obtain ⟨y242, hy242⟩ : ∃ y_ : List ByteArray, y_ = (([] : List ByteArray)) := ⟨_, rfl⟩
 replace H : (impl_pegsText.l0 k y242 l0 (l0.length : Int) 0) = some r := by first | (rw [hy242]; with_reducible exact H) | (have H2_ := (Option.bind_some _ _).symm.trans H; rw [hy242]; with_reducible exact H2_) | (have H2_ := (Option.bind_some _ _).symm.trans H; with_reducible exact H2_) | with_reducible exact H | (rw [hy242]; exact H) | exact H
 have Ny242 := Aside0.mk hy242
 clear hy242
 have H' := Aside0.mk H
 clear H
 go_enter Tryd.func13, Tryd.ntmps13
 go_wp2_with (first | ((with_reducible refine gate_dst (N := 6) rfl ?_); refine Kd.R_lit Kd.string _ 9 ?hg (N := 6) ?hd (xs := ([] : List ByteArray)) (inner := []) (ok := fun _ => True) (okp := fun _ => True) ?hr ?hp (fun _ hk => hk) trivial (Below.refl _ _) (Nat.le_refl _) (by simp) ?_; (case hd => rfl); (case hg => rfl); (case hr => first | (go_simp; done) | (go_simp; rfl)); (case hp => exact (Reps.none _ _)); intro v243 w2 ho3 hb hg_ hnew_; clear hg_ hnew_; (first | rw [← Ny242.out] at ho3 | (simp only [Int.reduceToNat] at ho3; rw [← Ny242.out] at ho3)); have n0_ := Aside0.mk (Kd.R_lower ho3 (below_size zb)); have n1_ := Aside0.mk (below_step zb hb); clear HB; have HO244 := n0_; have HB := n1_; clear n0_ n1_; clear hb ho3))
 go_loopg [3, 9] k (fun kq v3 v9 w' => ∃ (x3_1 : List ByteArray) (x9_1 : Int), v9 = .int .i64 x9_1 ∧ Aside0 (impl_pegsText.l0 kq x3_1 l0 (l0.length : Int) x9_1 = some r) ∧ Aside0 (kq ≤ k) ∧ Aside0 (Kd.R Kd.string 9 w' w.heap.size (fun _ => True) v3 x3_1) ∧ Aside0 (Below w.heap.size w w'))
 case atStart => exact ⟨(y242), (0), (by first | rfl | (simp; done) | (simp [*]; done)), H', ⟨Nat.le_refl _⟩, ⟨by (with_reducible repeat (first | apply Kd.R_alloc | apply Kd.R_drewN | apply Kd.R_drew)); exact HO244.out⟩, ⟨zb⟩⟩
 case round =>
  clear H'
  try clear c1
  try clear p2
  obtain ⟨x3_1, x9_1, rfl, HA, HK1, HO_3, HB⟩ := hrel
  cases gk with
  | zero => exact absurd HA.out (by simp [impl_pegsText.l0])
  | succ k1 =>
   have H := HA.out
   clear HA
   simp only [impl_pegsText.l0] at H
   by_cases c4 : x9_1 < (l0.length : Int)
   ·rw [if_pos c4] at H
    have c4b0 : decide (x9_1 < (l0.length : Int)) = true := decide_eq_true c4
    clear c4
    by_cases c5 : 0 ≤ x9_1
    ·rw [if_pos c5] at H
     have c5b0 : decide (0 ≤ x9_1) = true := decide_eq_true c5
     clear c5
     by_cases c6 : x9_1 < (l0.length : Int)
     ·rw [if_pos c6] at H
      have c6b0 : decide (x9_1 < (l0.length : Int)) = true := decide_eq_true c6
      clear c6
      replace H := Option.bind_eq_some_iff.mp H
      obtain ⟨t247, A70, H⟩ := H
      replace H : (if t247.size + 1 ≤ 9223372036854775807 then ((strconv_Itoa_26.f ((rd_T33 l0 x9_1).f1)).bind fun t248 => (if (t247 ++ (⟨#[44]⟩ : ByteArray)).size + t248.size ≤ 9223372036854775807 then (if x3_1.length < 8796093022208 then (impl_pegsText.l0 k1 (x3_1 ++ [(t247 ++ (⟨#[44]⟩ : ByteArray)) ++ t248]) l0 (l0.length : Int) (wrap64 (x9_1 + 1))) else (none)) else (none))) else (none)) = some r := H
      have A7 := Aside0.mk A70
      clear A70
      by_cases c8 : t247.size + 1 ≤ 9223372036854775807
      ·rw [if_pos c8] at H
       have c8b0 := eq_true c8
       (try simp only [ByteArray.size_append, show (⟨#[44]⟩ : ByteArray).size = 1 from rfl, show (⟨#[32]⟩ : ByteArray).size = 1 from rfl] at c8b0)
       have c8b1 : decide (t247.size + 1 ≤ 9223372036854775807) = true := decide_eq_true c8
       try have c8b2 : (9223372036854775807 < t247.size + 1) = False := eq_false (Nat.not_lt.2 c8)
       replace H := Option.bind_eq_some_iff.mp H
       obtain ⟨t248, A90, H⟩ := H
       replace H : (if (t247 ++ (⟨#[44]⟩ : ByteArray)).size + t248.size ≤ 9223372036854775807 then (if x3_1.length < 8796093022208 then (impl_pegsText.l0 k1 (x3_1 ++ [(t247 ++ (⟨#[44]⟩ : ByteArray)) ++ t248]) l0 (l0.length : Int) (wrap64 (x9_1 + 1))) else (none)) else (none)) = some r := H
       have A9 := Aside0.mk A90
       clear A90
       by_cases c10 : (t247 ++ (⟨#[44]⟩ : ByteArray)).size + t248.size ≤ 9223372036854775807
       ·rw [if_pos c10] at H
        have c10b0 := eq_true c10
        (try simp only [ByteArray.size_append, show (⟨#[44]⟩ : ByteArray).size = 1 from rfl, show (⟨#[32]⟩ : ByteArray).size = 1 from rfl] at c10b0)
        have c10b1 : decide ((t247 ++ (⟨#[44]⟩ : ByteArray)).size + t248.size ≤ 9223372036854775807) = true := decide_eq_true c10
        (try simp only [ByteArray.size_append, show (⟨#[44]⟩ : ByteArray).size = 1 from rfl, show (⟨#[32]⟩ : ByteArray).size = 1 from rfl] at c10b1)
        try have c10b2 : (9223372036854775807 < (t247 ++ (⟨#[44]⟩ : ByteArray)).size + t248.size) = False := eq_false (Nat.not_lt.2 c10)
        (try simp only [ByteArray.size_append, show (⟨#[44]⟩ : ByteArray).size = 1 from rfl, show (⟨#[32]⟩ : ByteArray).size = 1 from rfl] at c10b2)
        by_cases c11 : x3_1.length < 8796093022208
        ·rw [if_pos c11] at H
         have LMc11 := Aside0.mk c11
         clear c11
         obtain ⟨y249, hy249⟩ : ∃ y_ : List ByteArray, y_ = (x3_1 ++ [(t247 ++ (⟨#[44]⟩ : ByteArray)) ++ t248]) := ⟨_, rfl⟩
         replace H : (impl_pegsText.l0 k1 y249 l0 (l0.length : Int) (wrap64 (x9_1 + 1))) = some r := by first | (rw [hy249]; with_reducible exact H) | (have H2_ := (Option.bind_some _ _).symm.trans H; rw [hy249]; with_reducible exact H2_) | (have H2_ := (Option.bind_some _ _).symm.trans H; with_reducible exact H2_) | with_reducible exact H | (rw [hy249]; exact H) | exact H
         have Ny249 := Aside0.mk hy249
         clear hy249
         have H' := Aside0.mk H
         clear H
         have p245 : 0 ≤ (x9_1 : Int) := of_decide_eq_true (by first | (with_reducible assumption) | assumption)
         have q245 : x9_1 < (l0.length : Int) := of_decide_eq_true (by first | (with_reducible assumption) | assumption)
         obtain ⟨ad245, e245, hx245_0, hx245_1⟩ := at_T33 HR0.out x9_1 p245 q245
         cases e245
         replace hx245_0 := zc HB hx245_0
         replace hx245_1 := zc HB hx245_1
         replace p245 := eq_true p245
         replace q245 := eq_true q245
         try go_wp2_with (first | ((with_reducible refine gate_dst (N := 5) rfl ?_); refine box_event ?hg (N := 5) ?hd (cs := #[.int .i64 0, .int .i64 0]) (t := 33) ?hr ?_; (case hd => rfl); (case hg => rfl); (case hr => first | (go_simp; done) | (go_simp; rfl)); intro gb246 hg w12 hbox hb; have n0_ := Aside0.mk (Kd.R_below (by (with_reducible repeat (first | apply Kd.R_alloc | apply Kd.R_drewN | apply Kd.R_drew)); exact HO_3.out) hb); have n1_ := Aside0.mk (below_step zb hb); have n2_ := Aside0.mk (hbox); have n3_ := Aside0.mk ((by rw [hg]; exact (below_size zb) : w.heap.size ≤ gb246)); have n4_ := Aside0.mk ((by rw [hg]; exact (below_size zb) : w.heap.size ≤ gb246)); clear HO_3; clear HB; have HO_3 := n0_; have HB := n1_; have BK246 := n2_; have GW246 := n3_; have GE246 := n4_; clear n0_ n1_ n2_ n3_ n4_; clear hb hbox hg; have hcz13_0 : w12.cell? ⟨gb246, 0, none⟩ = some (.int .i64 0) := (blk_cell BK246.out 0).trans rfl; have hcz13_1 : w12.cell? ⟨gb246, 1, none⟩ = some (.int .i64 0) := (blk_cell BK246.out 1).trans rfl; have hfz13_0 := blk_frozen BK246.out 0; have hfz13_1 := blk_frozen BK246.out 1))
         have n0_ : Aside0 (Kd.R Kd.string 9 ((w12.setCell ⟨gb246, 0, none⟩ (.int .i64 ((rd_T33 l0 x9_1).f0))).setCell ⟨gb246, 1, none⟩ (.int .i64 ((rd_T33 l0 x9_1).f1))) w.heap.size (fun _ => True) u3 x3_1) := ⟨by (with_reducible repeat (first | apply Kd.R_alloc | apply Kd.R_drewN | apply Kd.R_drew)); exact Kd.R_mono (Kd.R_far (p := ⟨gb246, 1, none⟩) (Kd.R_far (p := ⟨gb246, 0, none⟩) (Kd.R_types HO_3.out BK246.out (by decide)) (fun _ hk => hk.2) (.int .i64 ((rd_T33 l0 x9_1).f0))) (fun _ hk => hk.2) (.int .i64 ((rd_T33 l0 x9_1).f1))) (fun _ hk => trivial)⟩
         have n1_ : Aside0 (((w12.setCell ⟨gb246, 0, none⟩ (.int .i64 ((rd_T33 l0 x9_1).f0))).setCell ⟨gb246, 1, none⟩ (.int .i64 ((rd_T33 l0 x9_1).f1))).heap[gb246]? = some (.cells #[.int .i64 ((rd_T33 l0 x9_1).f0), .int .i64 ((rd_T33 l0 x9_1).f1)] 33 (0, 0))) := ⟨by (with_reducible repeat (first | refine blk_drewN ?_ _ | refine blk_drew ?_ | refine blk_alloc ?_ _)); refine blk_put (cs := #[.int .i64 ((rd_T33 l0 x9_1).f0), .int .i64 0]) ?_ 1 _ rfl; (with_reducible repeat (first | refine blk_drewN ?_ _ | refine blk_drew ?_ | refine blk_alloc ?_ _)); refine blk_put (cs := #[.int .i64 0, .int .i64 0]) ?_ 0 _ rfl; (with_reducible repeat (first | refine blk_drewN ?_ _ | refine blk_drew ?_ | refine blk_alloc ?_ _)); exact BK246.out⟩
         have n2_ : Aside0 (Below w.heap.size w ((w12.setCell ⟨gb246, 0, none⟩ (.int .i64 ((rd_T33 l0 x9_1).f0))).setCell ⟨gb246, 1, none⟩ (.int .i64 ((rd_T33 l0 x9_1).f1)))) := ⟨zb⟩
         (try clear HO_3)
         (try clear BK246)
         (try clear HB)
         generalize ((w12.setCell ⟨gb246, 0, none⟩ (.int .i64 ((rd_T33 l0 x9_1).f0))).setCell ⟨gb246, 1, none⟩ (.int .i64 ((rd_T33 l0 x9_1).f1))) = w14 at n0_ n1_ n2_ ⊢
         have HO_3 := n0_
         have BK246 := n1_
         have HB := n2_
         clear n0_ n1_ n2_
         have n0_ := Aside0.mk (Kd.R_drew HO_3.out)
         have n1_ := Aside0.mk (blk_drew BK246.out)
         have n2_ := Aside0.mk (below_drew1 HB.out)
         clear HO_3
         clear BK246
         clear HB
         have HO_3 := n0_
         have BK246 := n1_
         have HB := n2_
         clear n0_ n1_ n2_
         refine start_ (n := 12) (S := fun w' => w'.cell? ⟨gb246, 0, none⟩ = some (.int .i64 ((rd_T33 l0 x9_1).f0)) ∧ w'.cell? ⟨gb246, 1, none⟩ = some (.int .i64 ((rd_T33 l0 x9_1).f1))) (ds := []) (zl 12 0) (by kernel_rfl) rfl rfl ⟨(blk_cell BK246.out 0).trans rfl, (blk_cell BK246.out 1).trans rfl⟩ (fun hHeld => ?_); refine with_tabW impl_pegsText.tab5 impl_pegsText.bits5 (fun HT_ HW_ => ?_)
         generalize w14.drew = w15 at HO_3 BK246 HB hHeld ⊢
         refine zp 0 13 12 1 HT_ ?_
         refine zp 1 14 12 3 HT_ ?_
         refine zp 5 18 12 35 HT_ ?_
         refine take_ (i := 2) (N := some 15) (v := ?_) (a' := ?_) (zl 12 39) rfl rfl (take_ofW HT_.out HW_.out (by kernel_rfl)) (fun _ _ _ h => h) (Or.inl ⟨by rfl, ?_⟩) hHeld ?_ ?_
         rotate_left
         ·rintro w' ⟨s0, s1⟩
          go_simp
          with_reducible rfl
         rotate_left
         ·exact zs
         refine take_ (i := 6) (N := some 19) (v := ?_) (a' := ?_) (zl 12 103) rfl rfl (take_ofW HT_.out HW_.out (by kernel_rfl)) (fun _ _ _ h => h) (Or.inl ⟨by rfl, ?_⟩) hHeld ?_ ?_
         rotate_left
         ·rintro w' ⟨s0, s1⟩
          go_simp
          with_reducible rfl
         rotate_left
         ·exact zs
         refine one_ (i := 3) (N := some 16) (zl 12 111) rfl rfl (one_of HT_.out (by kernel_rfl)) (by decide) (fun K hK => ?_)
         refine goes_ Tryd.func26 (by kernel_rfl) rfl #[.int .i64 ((rd_T33 l0 x9_1).f0)] (by rfl) rfl rfl zn ?_
         with_reducible refine (strconv_Itoa_26.calls ((rd_T33 l0 x9_1).f0) t247 _ A7.out).mono ?_
         rintro e w16 ⟨rfl, hb⟩
         refine ⟨_, rfl, ?_⟩
         have n0_ := Aside0.mk (Kd.R_below (by (with_reducible repeat (first | apply Kd.R_alloc | apply Kd.R_drewN | apply Kd.R_drew)); exact HO_3.out) hb)
         have n1_ := Aside0.mk (blk_below (g := gb246) (o := .cells #[.int .i64 ((rd_T33 l0 x9_1).f0), .int .i64 ((rd_T33 l0 x9_1).f1)] 33 (0, 0)) zk hb)
         have n2_ := Aside0.mk (below_step zb hb)
         clear HO_3
         clear BK246
         clear HB
         have HO_3 := n0_
         have BK246 := n1_
         have HB := n2_
         clear n0_ n1_ n2_
         (try clear hb)
         (try clear hb2)
         (try clear hk)
         (try clear hi)
         refine hK.out _ _ ⟨(blk_cell BK246.out 0).trans rfl, (blk_cell BK246.out 1).trans rfl⟩ (fun hHeld => ?_)
         clear hK K
         refine norm_ (a' := ?_) ?_ ?_
         rotate_left
         ·show Act.put _ (some 16) _ = _
          exact zs
         refine zp 4 17 12 127 HT_ ?_
         refine one_ (i := 7) (N := some 20) (zl 12 255) rfl rfl (one_of HT_.out (by kernel_rfl)) (by decide) (fun K hK => ?_)
         refine goes_ Tryd.func26 (by kernel_rfl) rfl #[.int .i64 ((rd_T33 l0 x9_1).f1)] (by rfl) rfl rfl zn ?_
         with_reducible refine (strconv_Itoa_26.calls ((rd_T33 l0 x9_1).f1) t248 _ A9.out).mono ?_
         rintro e w17 ⟨rfl, hb⟩
         refine ⟨_, rfl, ?_⟩
         have n0_ := Aside0.mk (Kd.R_below (by (with_reducible repeat (first | apply Kd.R_alloc | apply Kd.R_drewN | apply Kd.R_drew)); exact HO_3.out) hb)
         have n1_ := Aside0.mk (blk_below (g := gb246) (o := .cells #[.int .i64 ((rd_T33 l0 x9_1).f0), .int .i64 ((rd_T33 l0 x9_1).f1)] 33 (0, 0)) zk hb)
         have n2_ := Aside0.mk (below_step zb hb)
         clear HO_3
         clear BK246
         clear HB
         have HO_3 := n0_
         have BK246 := n1_
         have HB := n2_
         clear n0_ n1_ n2_
         (try clear hb)
         (try clear hb2)
         (try clear hk)
         (try clear hi)
         refine hK.out _ _ ⟨(blk_cell BK246.out 0).trans rfl, (blk_cell BK246.out 1).trans rfl⟩ (fun hHeld => ?_)
         clear hK K
         refine norm_ (a' := ?_) ?_ ?_
         rotate_left
         ·show Act.put _ (some 20) _ = _
          exact zs
         refine zp 8 21 12 511 HT_ ?_
         refine one_ (i := 9) (N := some 22) (zl 12 1023) rfl rfl (one_of HT_.out (by kernel_rfl)) (by decide) (fun K hK => ?_)
         refine value_ (w1 := ?_) (v := ?_) (by rfl) rfl ?_ ?_
         rotate_left 2
         ·go_simp
          constructor
          ·rfl
          ·rfl
         refine hK.out _ _ ⟨(blk_cell (blk_alloc BK246.out _) 0).trans rfl, (blk_cell (blk_alloc BK246.out _) 1).trans rfl⟩ (fun hHeld => ?_)
         clear hK K
         refine norm_ (a' := ?_) ?_ ?_
         rotate_left
         ·show Act.put _ (some 22) _ = _
          exact zs
         refine one_ (i := 10) (N := some 23) (zl 12 2047) rfl rfl (one_of HT_.out (by kernel_rfl)) (by decide) (fun K hK => ?_)
         refine Kd.R_append_step Kd.string (w0 := w) w.heap.size (by rfl) (.tmp 13) (.tmp 22) 45 9 (.string ⟨#[]⟩) 16 rfl Tryd.underlying45 info9 rfl (by decide) (by omega) u3 x3_1 ((t247 ++ (⟨#[44]⟩ : ByteArray)) ++ t248) [.string ((t247 ++ (⟨#[44]⟩ : ByteArray)) ++ t248)] (fun _ => True) (fun _ => False) rfl rfl ?aP (fun _ hk => hk.elim) ?aF ?aO ?aB ?aS ?aL ?_
         (case aP => exact rfl)
         (case aB => exact zb)
         (case aF => exact (fun _ _ => trivial))
         (case aO => exact (by (with_reducible repeat (first | apply Kd.R_alloc | apply Kd.R_drewN | apply Kd.R_drew)); exact HO_3.out))
         (case aS => exact (below_size zb))
         (case aL => have := LMc11.out; omega)
         intro v250 w18 ho hb hg hat
         rw [← Ny249.out] at ho
         have n0_ := Aside0.mk (blk_grown (g := gb246) (o := .cells #[.int .i64 ((rd_T33 l0 x9_1).f0), .int .i64 ((rd_T33 l0 x9_1).f1)] 33 (0, 0)) zk hg (Kd.R_ne HO_3.out BK246.out (by decide)))
         have n1_ := Aside0.mk (hb)
         have n2_ := Aside0.mk (ho)
         clear BK246
         clear HB
         clear HO_3
         have BK246 := n0_
         have HB := n1_
         have HO251 := n2_
         clear n0_ n1_ n2_
         clear ho hb hg hat
         refine hK.out _ _ ⟨(blk_cell BK246.out 0).trans rfl, (blk_cell BK246.out 1).trans rfl⟩ (fun hHeld => ?_)
         clear hK K
         refine norm_ (a' := ?_) ?_ ?_
         rotate_left
         ·show Act.put _ (some 23) _ = _
          exact zs
         refine zp 11 3 12 4095 HT_ ?_
         refine done_ (done_of HT_.out (by kernel_rfl)) ?_
         try go_wp2
         go_roundg k1
         case measure => have := HK1.out; omega
         case rel => exact ⟨(y249), (wrap64 (x9_1 + 1)), (by first | rfl | (simp; done) | (simp [*]; done)), H', ⟨by have := HK1.out; omega⟩, ⟨by (with_reducible repeat (first | apply Kd.R_alloc | apply Kd.R_drewN | apply Kd.R_drew)); exact HO251.out⟩, ⟨zb⟩⟩
        ·rw [if_neg c11] at H
         exact absurd H (by simp)
       ·rw [if_neg c10] at H
        exact absurd H (by simp)
      ·rw [if_neg c8] at H
       exact absurd H (by simp)
     ·rw [if_neg c6] at H
      exact absurd H (by simp)
    ·rw [if_neg c5] at H
     exact absurd H (by simp)
   ·rw [if_neg c4] at H
    have c4b0 : decide (x9_1 < (l0.length : Int)) = false := decide_eq_false c4
    clear c4
    replace H := Option.bind_eq_some_iff.mp H
    obtain ⟨t252, A190, H⟩ := H
    replace H : (some t252) = some r := H
    have A19 := Aside0.mk A190
    clear A190
    obtain rfl := Option.some.inj H
    obtain ⟨Ao20, co20, eo20⟩ := Kd.R_slice HO_3.out
    subst eo20
    go_wp2_with (first | ((with_reducible refine gate_callee (f := 27) rfl ?_); refine goesL_ (some 26) rfl rfl Tryd.func27 (by kernel_rfl) rfl #[.slice Ao20 x3_1.length co20, .string (⟨#[32]⟩ : ByteArray)] rfl zn ?_; (with_reducible refine (strings_Join.calls _ _ x3_1 (⟨#[32]⟩ : ByteArray) t252 _ ?side1 ?side2 A19.out).mono ?_); (case side1 => repeat (first | exact (Kd.R_reads' HO_3.out).2.2 | (with_reducible refine Kd.C_alloc ?_ _) | (with_reducible refine Kd.C_drewN ?_ _) | (with_reducible refine Kd.C_drew ?_))); (case side2 => exact (Kd.R_reads' HO_3.out).2.1); rintro e w21 ⟨rfl, hb⟩; refine ⟨_, rfl, ?_⟩; have n0_ := Aside0.mk (Kd.R_below (by (with_reducible repeat (first | apply Kd.R_alloc | apply Kd.R_drewN | apply Kd.R_drew)); exact HO_3.out) hb); have n1_ := Aside0.mk (below_step zb hb); clear HO_3; clear HB; have HO_3 := n0_; have HB := n1_; clear n0_ n1_; (try clear hb); (try clear hb2); (try clear hk); (try clear hi)))
    go_ret
    exact ⟨by first | rfl | (simp [errW_none, errW_some] <;> rfl) | (simp [*, errW_none, errW_some] <;> rfl), zb⟩
def impl_PolygonText.f (k : Nat) (l0 : List (S33)) : Option (ByteArray × Bool) := (impl_IsPolygon.f k l0).bind fun t253 => (if t253 = true then ((impl_pegsText.f k l0).bind fun t254 => (some (t254, true))) else (some ((⟨#[]⟩ : ByteArray), false)))
set_option maxHeartbeats 8000000 in
set_option maxRecDepth 100000 in
theorem impl_PolygonText.calls (k : Nat) (A0 : Option Addr) (c0 : Nat) (l0 : List (S33)) (r1 : ByteArray) (r2 : Bool) (w : World) (hr0 : Kd.C k33 w A0 l0.length l0) (hc0 : l0.length ≤ c0) (h : impl_PolygonText.f k l0 = some (r1, r2)) (htab : YtphpdfcblchpnaaDoorI.TabW w := by exact YtphpdfcblchpnaaDoorI.tab_of HTAB (by repeat (first | (with_reducible first | exact HB.out | apply below_alloc | apply pw_below_drewN | apply below_drew1 | refine below_set ?_ (Aside0.out (by assumption))) | exact HB.out))) :
  Calls Tryd.prog 7 #[.slice A0 l0.length c0] w fun e w' => e = .returned (.tuple #[.string r1, .bool r2]) ∧ Below w.heap.size w w' := by
 have HTAB := Aside0.mk htab
 clear htab
 have HR0 := Aside0.mk hr0
 have HC0 := Aside0.mk hc0
 clear hr0 hc0
 have HB := Aside0.mk (Below.refl w.heap.size w)
 have H : ((impl_IsPolygon.f k l0).bind fun t253 => (if t253 = true then ((impl_pegsText.f k l0).bind fun t254 => (some (t254, true))) else (some ((⟨#[]⟩ : ByteArray), false)))) = some (r1, r2) := h
 clear h
 replace H := Option.bind_eq_some_iff.mp H
 obtain ⟨t253, A20, H⟩ := H
 replace H : (if t253 = true then ((impl_pegsText.f k l0).bind fun t254 => (some (t254, true))) else (some ((⟨#[]⟩ : ByteArray), false))) = some (r1, r2) := H
 have A2 := Aside0.mk A20
 clear A20
 by_cases c3 : t253 = true
 ·subst c3
  have H1 : ((impl_pegsText.f k l0).bind fun t254 => (some (t254, true))) = some (r1, r2) := by rw [if_pos rfl] at H; exact H
  clear H
  have H := H1
  clear H1
  replace H := Option.bind_eq_some_iff.mp H
  obtain ⟨t254, A40, H⟩ := H
  replace H : (some (t254, true)) = some (r1, r2) := H
  have A4 := Aside0.mk A40
  clear A40
  simp only [Option.some.injEq, Prod.mk.injEq] at H
  obtain ⟨rfl, rfl⟩ := H
  go_enter Tryd.func7, Tryd.ntmps7
  go_wp2_with (first | ((with_reducible refine gate_callee (f := 12) rfl ?_); refine goesL_ (some 5) rfl rfl Tryd.func12 (by kernel_rfl) rfl #[.slice A0 l0.length c0] rfl zn ?_; (with_reducible refine (impl_IsPolygon.calls k _ _ l0 true _ ?side1 ?side2 A2.out).mono ?_); (case side1 => repeat (first | exact HR0.out | (with_reducible refine Kd.C_alloc ?_ _) | (with_reducible refine Kd.C_drewN ?_ _) | (with_reducible refine Kd.C_drew ?_))); (case side2 => exact HC0.out); rintro e w5 ⟨rfl, hb⟩; refine ⟨_, rfl, ?_⟩; have n0_ := Aside0.mk (below_step zb hb); clear HB; have HB := n0_; clear n0_; (try clear hb); (try clear hb2); (try clear hk); (try clear hi)) | ((with_reducible refine gate_callee (f := 13) rfl ?_); refine goesL_ (some 8) rfl rfl Tryd.func13 (by kernel_rfl) rfl #[.slice A0 l0.length c0] rfl zn ?_; (with_reducible refine (impl_pegsText.calls k _ _ l0 t254 _ ?side1 ?side2 A4.out).mono ?_); (case side1 => repeat (first | exact (Kd.C_below HR0.out HB.out) | (with_reducible refine Kd.C_alloc ?_ _) | (with_reducible refine Kd.C_drewN ?_ _) | (with_reducible refine Kd.C_drew ?_))); (case side2 => exact HC0.out); rintro e w6 ⟨rfl, hb⟩; refine ⟨_, rfl, ?_⟩; have n0_ := Aside0.mk (below_step zb hb); clear HB; have HB := n0_; clear n0_; (try clear hb); (try clear hb2); (try clear hk); (try clear hi)))
  go_ret2
  exact ⟨by first | rfl | (simp [errW_none, errW_some] <;> rfl) | (simp [*, errW_none, errW_some] <;> rfl), zb⟩
 ·replace c3 := Bool.eq_false_iff.mpr c3
  subst c3
  have H1 : (some ((⟨#[]⟩ : ByteArray), false)) = some (r1, r2) := by rw [if_neg (show ¬ (false = true) by decide)] at H; exact H
  clear H
  have H := H1
  clear H1
  simp only [Option.some.injEq, Prod.mk.injEq] at H
  obtain ⟨rfl, rfl⟩ := H
  go_enter Tryd.func7, Tryd.ntmps7
  go_wp2_with (first | ((with_reducible refine gate_callee (f := 12) rfl ?_); refine goesL_ (some 5) rfl rfl Tryd.func12 (by kernel_rfl) rfl #[.slice A0 l0.length c0] rfl zn ?_; (with_reducible refine (impl_IsPolygon.calls k _ _ l0 false _ ?side1 ?side2 A2.out).mono ?_); (case side1 => repeat (first | exact HR0.out | (with_reducible refine Kd.C_alloc ?_ _) | (with_reducible refine Kd.C_drewN ?_ _) | (with_reducible refine Kd.C_drew ?_))); (case side2 => exact HC0.out); rintro e w7 ⟨rfl, hb⟩; refine ⟨_, rfl, ?_⟩; have n0_ := Aside0.mk (below_step zb hb); clear HB; have HB := n0_; clear n0_; (try clear hb); (try clear hb2); (try clear hk); (try clear hi)))
  go_ret2
  exact ⟨by first | rfl | (simp [errW_none, errW_some] <;> rfl) | (simp [*, errW_none, errW_some] <;> rfl), zb⟩
def laws_eqPeg.f (a0_0 : Int) (a0_1 : Int) (a1_0 : Int) (a1_1 : Int) : Option (Bool) := if a0_0 = a1_0 then (if a0_1 = a1_1 then (some true) else (some false)) else (some false)
set_option maxHeartbeats 8000000 in
set_option maxRecDepth 100000 in
theorem laws_eqPeg.calls (a0_0 : Int) (a0_1 : Int) (a1_0 : Int) (a1_1 : Int) (r : Bool) (w : World) (h : laws_eqPeg.f a0_0 a0_1 a1_0 a1_1 = some r) :
  Calls Tryd.prog 14 #[.agg #[.int .i64 a0_0, .int .i64 a0_1], .agg #[.int .i64 a1_0, .int .i64 a1_1]] w fun e w' => e = .returned (.bool r) ∧ Below w.heap.size w w' := by
 have hu33 := Tryd.underlying33
 have HB := Aside0.mk (Below.refl w.heap.size w)
 have H : (if a0_0 = a1_0 then (if a0_1 = a1_1 then (some true) else (some false)) else (some false)) = some r := h
 clear h
 by_cases c3 : a0_0 = a1_0
 ·rw [if_pos c3] at H
  have c3b0 : (a0_0 == a1_0) = true := beq_iff_eq.mpr c3
  have c3b1 : (a0_0 != a1_0) = false := bne_eq_false_iff_eq.mpr c3
  clear c3
  by_cases c4 : a0_1 = a1_1
  ·rw [if_pos c4] at H
   have c4b0 : (a0_1 == a1_1) = true := beq_iff_eq.mpr c4
   have c4b1 : (a0_1 != a1_1) = false := bne_eq_false_iff_eq.mpr c4
   clear c4
   obtain rfl := Option.some.inj H
   go_enter Tryd.func14, Tryd.ntmps14
   go_wp2_with (first | ((with_reducible refine gate_dst (N := 2) rfl ?_); refine box_event ?hg (N := 2) ?hd (cs := #[.int .i64 a0_0, .int .i64 a0_1]) (t := 33) ?hr ?_; (case hd => rfl); (case hg => rfl); (case hr => first | (go_simp; done) | (go_simp; rfl)); intro gb255 hg w5 hbox hb; have n0_ := Aside0.mk (below_step zb hb); have n1_ := Aside0.mk (hbox); have n2_ := Aside0.mk ((by rw [hg]; exact (below_size zb) : w.heap.size ≤ gb255)); have n3_ := Aside0.mk ((by rw [hg]; exact (below_size zb) : w.heap.size ≤ gb255)); clear HB; have HB := n0_; have BK255 := n1_; have GW255 := n2_; have GE255 := n3_; clear n0_ n1_ n2_ n3_; clear hb hbox hg) | ((with_reducible refine gate_dst (N := 3) rfl ?_); refine box_event ?hg (N := 3) ?hd (cs := #[.int .i64 a1_0, .int .i64 a1_1]) (t := 33) ?hr ?_; (case hd => rfl); (case hg => rfl); (case hr => first | (go_simp; done) | (go_simp; rfl)); intro gb256 hg w6 hbox hb; have n0_ := Aside0.mk (blk_below (g := gb255) (o := .cells #[.int .i64 a0_0, .int .i64 a0_1] 33 (0, 0)) zk hb); have n1_ := Aside0.mk (below_step zb hb); have n2_ := Aside0.mk (hbox); have n3_ := Aside0.mk ((by rw [hg]; exact (below_size zb) : w.heap.size ≤ gb256)); have n4_ := Aside0.mk ((by rw [hg]; exact (below_size zb) : w.heap.size ≤ gb256)); have n5_ := Aside0.mk ((by rw [hg]; exact Nat.ne_of_lt (blk_lt (g := gb255) (o := .cells #[.int .i64 a0_0, .int .i64 a0_1] 33 (0, 0)) zk) : gb255 ≠ gb256)); have n6_ := Aside0.mk ((by rw [hg]; exact Nat.ne_of_gt (blk_lt (g := gb255) (o := .cells #[.int .i64 a0_0, .int .i64 a0_1] 33 (0, 0)) zk) : gb256 ≠ gb255)); clear BK255; clear HB; have BK255 := n0_; have HB := n1_; have BK256 := n2_; have GW256 := n3_; have GE256 := n4_; have NB255_256 := n5_; have NB256_255 := n6_; clear n0_ n1_ n2_ n3_ n4_ n5_ n6_; clear hb hbox hg; have hnb7 := NB255_256.out; have hnc7 := NB256_255.out; have hcz8_0 : w6.cell? ⟨gb255, 0, none⟩ = some (.int .i64 a0_0) := (blk_cell BK255.out 0).trans rfl; have hcz8_1 : w6.cell? ⟨gb255, 1, none⟩ = some (.int .i64 a0_1) := (blk_cell BK255.out 1).trans rfl; have hfz8_0 := blk_frozen BK255.out 0; have hfz8_1 := blk_frozen BK255.out 1; have hcz9_0 : w6.cell? ⟨gb256, 0, none⟩ = some (.int .i64 a1_0) := (blk_cell BK256.out 0).trans rfl; have hcz9_1 : w6.cell? ⟨gb256, 1, none⟩ = some (.int .i64 a1_1) := (blk_cell BK256.out 1).trans rfl; have hfz9_0 := blk_frozen BK256.out 0; have hfz9_1 := blk_frozen BK256.out 1))
   go_ret
   exact ⟨by first | rfl | (simp [errW_none, errW_some] <;> rfl) | (simp [*, errW_none, errW_some] <;> rfl), zb⟩
  ·rw [if_neg c4] at H
   have c4b0 : (a0_1 == a1_1) = false := beq_eq_false_iff_ne.mpr c4
   have c4b1 : (a0_1 != a1_1) = true := bne_iff_ne.mpr c4
   obtain rfl := Option.some.inj H
   go_enter Tryd.func14, Tryd.ntmps14
   go_wp2_with (first | ((with_reducible refine gate_dst (N := 2) rfl ?_); refine box_event ?hg (N := 2) ?hd (cs := #[.int .i64 a0_0, .int .i64 a0_1]) (t := 33) ?hr ?_; (case hd => rfl); (case hg => rfl); (case hr => first | (go_simp; done) | (go_simp; rfl)); intro gb255 hg w10 hbox hb; have n0_ := Aside0.mk (below_step zb hb); have n1_ := Aside0.mk (hbox); have n2_ := Aside0.mk ((by rw [hg]; exact (below_size zb) : w.heap.size ≤ gb255)); have n3_ := Aside0.mk ((by rw [hg]; exact (below_size zb) : w.heap.size ≤ gb255)); clear HB; have HB := n0_; have BK255 := n1_; have GW255 := n2_; have GE255 := n3_; clear n0_ n1_ n2_ n3_; clear hb hbox hg) | ((with_reducible refine gate_dst (N := 3) rfl ?_); refine box_event ?hg (N := 3) ?hd (cs := #[.int .i64 a1_0, .int .i64 a1_1]) (t := 33) ?hr ?_; (case hd => rfl); (case hg => rfl); (case hr => first | (go_simp; done) | (go_simp; rfl)); intro gb256 hg w11 hbox hb; have n0_ := Aside0.mk (blk_below (g := gb255) (o := .cells #[.int .i64 a0_0, .int .i64 a0_1] 33 (0, 0)) zk hb); have n1_ := Aside0.mk (below_step zb hb); have n2_ := Aside0.mk (hbox); have n3_ := Aside0.mk ((by rw [hg]; exact (below_size zb) : w.heap.size ≤ gb256)); have n4_ := Aside0.mk ((by rw [hg]; exact (below_size zb) : w.heap.size ≤ gb256)); have n5_ := Aside0.mk ((by rw [hg]; exact Nat.ne_of_lt (blk_lt (g := gb255) (o := .cells #[.int .i64 a0_0, .int .i64 a0_1] 33 (0, 0)) zk) : gb255 ≠ gb256)); have n6_ := Aside0.mk ((by rw [hg]; exact Nat.ne_of_gt (blk_lt (g := gb255) (o := .cells #[.int .i64 a0_0, .int .i64 a0_1] 33 (0, 0)) zk) : gb256 ≠ gb255)); clear BK255; clear HB; have BK255 := n0_; have HB := n1_; have BK256 := n2_; have GW256 := n3_; have GE256 := n4_; have NB255_256 := n5_; have NB256_255 := n6_; clear n0_ n1_ n2_ n3_ n4_ n5_ n6_; clear hb hbox hg; have hnb12 := NB255_256.out; have hnc12 := NB256_255.out; have hcz13_0 : w11.cell? ⟨gb255, 0, none⟩ = some (.int .i64 a0_0) := (blk_cell BK255.out 0).trans rfl; have hcz13_1 : w11.cell? ⟨gb255, 1, none⟩ = some (.int .i64 a0_1) := (blk_cell BK255.out 1).trans rfl; have hfz13_0 := blk_frozen BK255.out 0; have hfz13_1 := blk_frozen BK255.out 1; have hcz14_0 : w11.cell? ⟨gb256, 0, none⟩ = some (.int .i64 a1_0) := (blk_cell BK256.out 0).trans rfl; have hcz14_1 : w11.cell? ⟨gb256, 1, none⟩ = some (.int .i64 a1_1) := (blk_cell BK256.out 1).trans rfl; have hfz14_0 := blk_frozen BK256.out 0; have hfz14_1 := blk_frozen BK256.out 1))
   go_ret
   exact ⟨by first | rfl | (simp [errW_none, errW_some] <;> rfl) | (simp [*, errW_none, errW_some] <;> rfl), zb⟩
 ·rw [if_neg c3] at H
  have c3b0 : (a0_0 == a1_0) = false := beq_eq_false_iff_ne.mpr c3
  have c3b1 : (a0_0 != a1_0) = true := bne_iff_ne.mpr c3
  obtain rfl := Option.some.inj H
  go_enter Tryd.func14, Tryd.ntmps14
  go_wp2_with (first | ((with_reducible refine gate_dst (N := 2) rfl ?_); refine box_event ?hg (N := 2) ?hd (cs := #[.int .i64 a0_0, .int .i64 a0_1]) (t := 33) ?hr ?_; (case hd => rfl); (case hg => rfl); (case hr => first | (go_simp; done) | (go_simp; rfl)); intro gb255 hg w15 hbox hb; have n0_ := Aside0.mk (below_step zb hb); have n1_ := Aside0.mk (hbox); have n2_ := Aside0.mk ((by rw [hg]; exact (below_size zb) : w.heap.size ≤ gb255)); have n3_ := Aside0.mk ((by rw [hg]; exact (below_size zb) : w.heap.size ≤ gb255)); clear HB; have HB := n0_; have BK255 := n1_; have GW255 := n2_; have GE255 := n3_; clear n0_ n1_ n2_ n3_; clear hb hbox hg) | ((with_reducible refine gate_dst (N := 3) rfl ?_); refine box_event ?hg (N := 3) ?hd (cs := #[.int .i64 a1_0, .int .i64 a1_1]) (t := 33) ?hr ?_; (case hd => rfl); (case hg => rfl); (case hr => first | (go_simp; done) | (go_simp; rfl)); intro gb256 hg w16 hbox hb; have n0_ := Aside0.mk (blk_below (g := gb255) (o := .cells #[.int .i64 a0_0, .int .i64 a0_1] 33 (0, 0)) zk hb); have n1_ := Aside0.mk (below_step zb hb); have n2_ := Aside0.mk (hbox); have n3_ := Aside0.mk ((by rw [hg]; exact (below_size zb) : w.heap.size ≤ gb256)); have n4_ := Aside0.mk ((by rw [hg]; exact (below_size zb) : w.heap.size ≤ gb256)); have n5_ := Aside0.mk ((by rw [hg]; exact Nat.ne_of_lt (blk_lt (g := gb255) (o := .cells #[.int .i64 a0_0, .int .i64 a0_1] 33 (0, 0)) zk) : gb255 ≠ gb256)); have n6_ := Aside0.mk ((by rw [hg]; exact Nat.ne_of_gt (blk_lt (g := gb255) (o := .cells #[.int .i64 a0_0, .int .i64 a0_1] 33 (0, 0)) zk) : gb256 ≠ gb255)); clear BK255; clear HB; have BK255 := n0_; have HB := n1_; have BK256 := n2_; have GW256 := n3_; have GE256 := n4_; have NB255_256 := n5_; have NB256_255 := n6_; clear n0_ n1_ n2_ n3_ n4_ n5_ n6_; clear hb hbox hg; have hnb17 := NB255_256.out; have hnc17 := NB256_255.out; have hcz18_0 : w16.cell? ⟨gb255, 0, none⟩ = some (.int .i64 a0_0) := (blk_cell BK255.out 0).trans rfl; have hcz18_1 : w16.cell? ⟨gb255, 1, none⟩ = some (.int .i64 a0_1) := (blk_cell BK255.out 1).trans rfl; have hfz18_0 := blk_frozen BK255.out 0; have hfz18_1 := blk_frozen BK255.out 1; have hcz19_0 : w16.cell? ⟨gb256, 0, none⟩ = some (.int .i64 a1_0) := (blk_cell BK256.out 0).trans rfl; have hcz19_1 : w16.cell? ⟨gb256, 1, none⟩ = some (.int .i64 a1_1) := (blk_cell BK256.out 1).trans rfl; have hfz19_0 := blk_frozen BK256.out 0; have hfz19_1 := blk_frozen BK256.out 1))
  go_ret
  exact ⟨by first | rfl | (simp [errW_none, errW_some] <;> rfl) | (simp [*, errW_none, errW_some] <;> rfl), zb⟩
def laws_eqPegS.l0 : Nat → List (S33) → List (S33) → Int → Option (Bool)
 | 0, _, _, _ => none
 | k + 1, x0, x1, x5 => if x5 < (x0.length : Int) then (if 0 ≤ x5 then (if x5 < (x1.length : Int) then ((laws_eqPeg.f ((rd_T33 x0 x5).f0) ((rd_T33 x0 x5).f1) ((rd_T33 x1 x5).f0) ((rd_T33 x1 x5).f1)).bind fun t259 => (if t259 = true then (laws_eqPegS.l0 k x0 x1 (wrap64 (x5 + 1))) else (some false))) else (none)) else (none)) else (some true)
def laws_eqPegS.f (k : Nat) (l0 : List (S33)) (l1 : List (S33)) : Option (Bool) := if (l0.length : Int) = (l1.length : Int) then (laws_eqPegS.l0 k l0 l1 0) else (some false)
def laws_eqPegS.T6 : Bool × List (List Nat × List Nat) := (true, [([], []), ([], []), ([0, 1], [0, 1]), ([2], [2]), ([], []), ([], []), ([4, 5], [4, 5]), ([6], [6]), ([3, 7], [3, 7]), ([8], [8])])
def laws_eqPegS.B6 : List Nat := [0, 0, 3, 7, 0, 0, 48, 112, 255, 511]
theorem laws_eqPegS.tab6 : rtab .any (opsOf Tryd.f8 6) = laws_eqPegS.T6 := by kernel_rfl
theorem laws_eqPegS.bits6 : waitsOk laws_eqPegS.T6.2 laws_eqPegS.B6 = true := by kernel_rfl
set_option maxHeartbeats 8000000 in
set_option maxRecDepth 100000 in
theorem laws_eqPegS.calls (k : Nat) (A0 : Option Addr) (c0 : Nat) (l0 : List (S33)) (A1 : Option Addr) (c1 : Nat) (l1 : List (S33)) (r : Bool) (w : World) (hr0 : Kd.C k33 w A0 l0.length l0) (hc0 : l0.length ≤ c0) (hr1 : Kd.C k33 w A1 l1.length l1) (hc1 : l1.length ≤ c1) (h : laws_eqPegS.f k l0 l1 = some r) :
  Calls Tryd.prog 8 #[.slice A0 l0.length c0, .slice A1 l1.length c1] w fun e w' => e = .returned (.bool r) ∧ Below w.heap.size w w' := by
 have hu33 := Tryd.underlying33
 have HR0 := Aside0.mk hr0
 have HC0 := Aside0.mk hc0
 clear hr0 hc0
 have HR1 := Aside0.mk hr1
 have HC1 := Aside0.mk hc1
 clear hr1 hc1
 have HB := Aside0.mk (Below.refl w.heap.size w)
 have H : (if (l0.length : Int) = (l1.length : Int) then (laws_eqPegS.l0 k l0 l1 0) else (some false)) = some r := h
 clear h
 by_cases c3 : (l0.length : Int) = (l1.length : Int)
 ·rw [if_pos c3] at H
  have c3b0 : ((l0.length : Int) == (l1.length : Int)) = true := beq_iff_eq.mpr c3
  have c3b1 : ((l0.length : Int) != (l1.length : Int)) = false := bne_eq_false_iff_eq.mpr c3
  have c3b2 : (l0.length == l1.length) = true := by first | simpa using c3 | (simp at c3 ⊢; omega)
  clear c3
  have H' := Aside0.mk H
  clear H
  go_enter Tryd.func8, Tryd.ntmps8
  go_wp2
  go_loopg [5] k (fun kq v5 w' => ∃ (x5_1 : Int), v5 = .int .i64 x5_1 ∧ Aside0 (laws_eqPegS.l0 kq l0 l1 x5_1 = some r) ∧ Aside0 (kq ≤ k) ∧ Aside0 (Below w.heap.size w w'))
  case atStart => exact ⟨(0), (by first | rfl | (simp; done) | (simp [*]; done)), H', ⟨Nat.le_refl _⟩, ⟨zb⟩⟩
  case round =>
   clear H'
   try clear c1
   try clear p2
   try clear c3
   try clear c3b0
   try clear c3b1
   try clear c3b2
   obtain ⟨x5_1, rfl, HA, HK1, HB⟩ := hrel
   cases gk with
   | zero => exact absurd HA.out (by simp [laws_eqPegS.l0])
   | succ k1 =>
    have H := HA.out
    clear HA
    simp only [laws_eqPegS.l0] at H
    by_cases c4 : x5_1 < (l0.length : Int)
    ·rw [if_pos c4] at H
     have c4b0 : decide (x5_1 < (l0.length : Int)) = true := decide_eq_true c4
     clear c4
     by_cases c5 : 0 ≤ x5_1
     ·rw [if_pos c5] at H
      have c5b0 : decide (0 ≤ x5_1) = true := decide_eq_true c5
      clear c5
      by_cases c6 : x5_1 < (l1.length : Int)
      ·rw [if_pos c6] at H
       have c6b0 : decide (x5_1 < (l1.length : Int)) = true := decide_eq_true c6
       clear c6
       replace H := Option.bind_eq_some_iff.mp H
       obtain ⟨t259, A70, H⟩ := H
       replace H : (if t259 = true then (laws_eqPegS.l0 k1 l0 l1 (wrap64 (x5_1 + 1))) else (some false)) = some r := H
       have A7 := Aside0.mk A70
       clear A70
       by_cases c8 : t259 = true
       ·subst c8
        have H1 : (laws_eqPegS.l0 k1 l0 l1 (wrap64 (x5_1 + 1))) = some r := by rw [if_pos rfl] at H; exact H
        clear H
        have H := H1
        clear H1
        have H' := Aside0.mk H
        clear H
        try go_wp2
        have n0_ := Aside0.mk (below_drew1 HB.out)
        clear HB
        have HB := n0_
        clear n0_
        have p257 : 0 ≤ (x5_1 : Int) := of_decide_eq_true (by first | (with_reducible assumption) | assumption)
        have q257 : x5_1 < (l0.length : Int) := of_decide_eq_true (by first | (with_reducible assumption) | assumption)
        obtain ⟨ad257, e257, hx257_0, hx257_1⟩ := at_T33 HR0.out x5_1 p257 q257
        have hw257_1 := hx257_1
        have hw257_0 := hx257_0
        cases e257
        replace hx257_0 := zc HB hx257_0
        replace hx257_1 := zc HB hx257_1
        replace p257 := eq_true p257
        replace q257 := eq_true q257
        have p258 : 0 ≤ (x5_1 : Int) := of_decide_eq_true (by first | (with_reducible assumption) | assumption)
        have q258 : x5_1 < (l1.length : Int) := of_decide_eq_true (by first | (with_reducible assumption) | assumption)
        obtain ⟨ad258, e258, hx258_0, hx258_1⟩ := at_T33 HR1.out x5_1 p258 q258
        have hw258_1 := hx258_1
        have hw258_0 := hx258_0
        cases e258
        replace hx258_0 := zc HB hx258_0
        replace hx258_1 := zc HB hx258_1
        replace p258 := eq_true p258
        replace q258 := eq_true q258
        refine start_ (n := 10) (S := fun w' => w'.cell? (ad257.add ((x5_1).toNat * 2)) = some (.int .i64 ((rd_T33 l0 x5_1).f0)) ∧ w'.cell? ⟨(ad257.add ((x5_1).toNat * 2)).block, (ad257.add ((x5_1).toNat * 2)).off + 1, none⟩ = some (.int .i64 ((rd_T33 l0 x5_1).f1)) ∧ w'.cell? (ad258.add ((x5_1).toNat * 2)) = some (.int .i64 ((rd_T33 l1 x5_1).f0)) ∧ w'.cell? ⟨(ad258.add ((x5_1).toNat * 2)).block, (ad258.add ((x5_1).toNat * 2)).off + 1, none⟩ = some (.int .i64 ((rd_T33 l1 x5_1).f1))) (ds := []) (zl 10 0) (by kernel_rfl) rfl rfl ⟨(zc HB hw257_0), (zc HB hw257_1), (zc HB hw258_0), (zc HB hw258_1)⟩ (fun hHeld => ?_); refine with_tabW laws_eqPegS.tab6 laws_eqPegS.bits6 (fun HT_ HW_ => ?_)
        generalize wr.drew = w9 at HB hx257_0 hx257_1 hx258_0 hx258_1 hHeld ⊢
        refine zp 0 17 10 1 HT_ ?_
        refine zp 1 18 10 3 HT_ ?_
        refine zp 2 19 10 7 HT_ ?_
        refine zp 4 21 10 23 HT_ ?_
        refine zp 5 22 10 55 HT_ ?_
        refine zp 6 23 10 119 HT_ ?_
        refine take_ (i := 3) (N := some 20) (v := ?_) (a' := ?_) (zl 10 127) rfl rfl (take_ofW HT_.out HW_.out (by kernel_rfl)) (fun _ _ _ h => h) (Or.inl ⟨by rfl, ?_⟩) hHeld ?_ ?_
        rotate_left
        ·rintro w' ⟨s0, s1, s2, s3⟩
         go_simp
         with_reducible rfl
        rotate_left
        ·exact zs
        refine take_ (i := 7) (N := some 24) (v := ?_) (a' := ?_) (zl 10 255) rfl rfl (take_ofW HT_.out HW_.out (by kernel_rfl)) (fun _ _ _ h => h) (Or.inl ⟨by rfl, ?_⟩) hHeld ?_ ?_
        rotate_left
        ·rintro w' ⟨s0, s1, s2, s3⟩
         go_simp
         with_reducible rfl
        rotate_left
        ·exact zs
        refine one_ (i := 8) (N := some 25) (zl 10 511) rfl rfl (one_of HT_.out (by kernel_rfl)) (by decide) (fun K hK => ?_)
        refine goes_ Tryd.func14 (by kernel_rfl) rfl #[.agg #[.int .i64 ((rd_T33 l0 x5_1).f0), .int .i64 ((rd_T33 l0 x5_1).f1)], .agg #[.int .i64 ((rd_T33 l1 x5_1).f0), .int .i64 ((rd_T33 l1 x5_1).f1)]] (by rfl) rfl rfl zn ?_
        with_reducible refine (laws_eqPeg.calls ((rd_T33 l0 x5_1).f0) ((rd_T33 l0 x5_1).f1) ((rd_T33 l1 x5_1).f0) ((rd_T33 l1 x5_1).f1) true _ A7.out).mono ?_
        rintro e w10 ⟨rfl, hb⟩
        refine ⟨_, rfl, ?_⟩
        have n0_ := Aside0.mk (below_step zb hb)
        clear HB
        have HB := n0_
        clear n0_
        (try clear hb)
        (try clear hb2)
        (try clear hk)
        (try clear hi)
        refine hK.out _ _ ⟨(zc HB hw257_0), (zc HB hw257_1), (zc HB hw258_0), (zc HB hw258_1)⟩ (fun hHeld => ?_)
        clear hK K
        refine norm_ (a' := ?_) ?_ ?_
        rotate_left
        ·show Act.put _ (some 25) _ = _
         exact zs
        refine zp 9 26 10 1023 HT_ ?_
        refine done_ (done_of HT_.out (by kernel_rfl)) ?_
        try go_wp2
        go_roundg k1
        case measure => have := HK1.out; omega
        case rel => exact ⟨(wrap64 (x5_1 + 1)), (by first | rfl | (simp; done) | (simp [*]; done)), H', ⟨by have := HK1.out; omega⟩, ⟨zb⟩⟩
       ·replace c8 := Bool.eq_false_iff.mpr c8
        subst c8
        have H1 : (some false) = some r := by rw [if_neg (show ¬ (false = true) by decide)] at H; exact H
        clear H
        have H := H1
        clear H1
        obtain rfl := Option.some.inj H
        try go_wp2
        have n0_ := Aside0.mk (below_drew1 HB.out)
        clear HB
        have HB := n0_
        clear n0_
        have p257 : 0 ≤ (x5_1 : Int) := of_decide_eq_true (by first | (with_reducible assumption) | assumption)
        have q257 : x5_1 < (l0.length : Int) := of_decide_eq_true (by first | (with_reducible assumption) | assumption)
        obtain ⟨ad257, e257, hx257_0, hx257_1⟩ := at_T33 HR0.out x5_1 p257 q257
        have hw257_1 := hx257_1
        have hw257_0 := hx257_0
        cases e257
        replace hx257_0 := zc HB hx257_0
        replace hx257_1 := zc HB hx257_1
        replace p257 := eq_true p257
        replace q257 := eq_true q257
        have p258 : 0 ≤ (x5_1 : Int) := of_decide_eq_true (by first | (with_reducible assumption) | assumption)
        have q258 : x5_1 < (l1.length : Int) := of_decide_eq_true (by first | (with_reducible assumption) | assumption)
        obtain ⟨ad258, e258, hx258_0, hx258_1⟩ := at_T33 HR1.out x5_1 p258 q258
        have hw258_1 := hx258_1
        have hw258_0 := hx258_0
        cases e258
        replace hx258_0 := zc HB hx258_0
        replace hx258_1 := zc HB hx258_1
        replace p258 := eq_true p258
        replace q258 := eq_true q258
        refine start_ (n := 10) (S := fun w' => w'.cell? (ad257.add ((x5_1).toNat * 2)) = some (.int .i64 ((rd_T33 l0 x5_1).f0)) ∧ w'.cell? ⟨(ad257.add ((x5_1).toNat * 2)).block, (ad257.add ((x5_1).toNat * 2)).off + 1, none⟩ = some (.int .i64 ((rd_T33 l0 x5_1).f1)) ∧ w'.cell? (ad258.add ((x5_1).toNat * 2)) = some (.int .i64 ((rd_T33 l1 x5_1).f0)) ∧ w'.cell? ⟨(ad258.add ((x5_1).toNat * 2)).block, (ad258.add ((x5_1).toNat * 2)).off + 1, none⟩ = some (.int .i64 ((rd_T33 l1 x5_1).f1))) (ds := []) (zl 10 0) (by kernel_rfl) rfl rfl ⟨(zc HB hw257_0), (zc HB hw257_1), (zc HB hw258_0), (zc HB hw258_1)⟩ (fun hHeld => ?_); refine with_tabW laws_eqPegS.tab6 laws_eqPegS.bits6 (fun HT_ HW_ => ?_)
        generalize wr.drew = w11 at HB hx257_0 hx257_1 hx258_0 hx258_1 hHeld ⊢
        refine zp 0 17 10 1 HT_ ?_
        refine zp 1 18 10 3 HT_ ?_
        refine zp 2 19 10 7 HT_ ?_
        refine zp 4 21 10 23 HT_ ?_
        refine zp 5 22 10 55 HT_ ?_
        refine zp 6 23 10 119 HT_ ?_
        refine take_ (i := 3) (N := some 20) (v := ?_) (a' := ?_) (zl 10 127) rfl rfl (take_ofW HT_.out HW_.out (by kernel_rfl)) (fun _ _ _ h => h) (Or.inl ⟨by rfl, ?_⟩) hHeld ?_ ?_
        rotate_left
        ·rintro w' ⟨s0, s1, s2, s3⟩
         go_simp
         with_reducible rfl
        rotate_left
        ·exact zs
        refine take_ (i := 7) (N := some 24) (v := ?_) (a' := ?_) (zl 10 255) rfl rfl (take_ofW HT_.out HW_.out (by kernel_rfl)) (fun _ _ _ h => h) (Or.inl ⟨by rfl, ?_⟩) hHeld ?_ ?_
        rotate_left
        ·rintro w' ⟨s0, s1, s2, s3⟩
         go_simp
         with_reducible rfl
        rotate_left
        ·exact zs
        refine one_ (i := 8) (N := some 25) (zl 10 511) rfl rfl (one_of HT_.out (by kernel_rfl)) (by decide) (fun K hK => ?_)
        refine goes_ Tryd.func14 (by kernel_rfl) rfl #[.agg #[.int .i64 ((rd_T33 l0 x5_1).f0), .int .i64 ((rd_T33 l0 x5_1).f1)], .agg #[.int .i64 ((rd_T33 l1 x5_1).f0), .int .i64 ((rd_T33 l1 x5_1).f1)]] (by rfl) rfl rfl zn ?_
        with_reducible refine (laws_eqPeg.calls ((rd_T33 l0 x5_1).f0) ((rd_T33 l0 x5_1).f1) ((rd_T33 l1 x5_1).f0) ((rd_T33 l1 x5_1).f1) false _ A7.out).mono ?_
        rintro e w12 ⟨rfl, hb⟩
        refine ⟨_, rfl, ?_⟩
        have n0_ := Aside0.mk (below_step zb hb)
        clear HB
        have HB := n0_
        clear n0_
        (try clear hb)
        (try clear hb2)
        (try clear hk)
        (try clear hi)
        refine hK.out _ _ ⟨(zc HB hw257_0), (zc HB hw257_1), (zc HB hw258_0), (zc HB hw258_1)⟩ (fun hHeld => ?_)
        clear hK K
        refine norm_ (a' := ?_) ?_ ?_
        rotate_left
        ·show Act.put _ (some 25) _ = _
         exact zs
        refine zp 9 26 10 1023 HT_ ?_
        refine done_ (done_of HT_.out (by kernel_rfl)) ?_
        try go_wp2
        go_ret
        exact ⟨by first | rfl | (simp [errW_none, errW_some] <;> rfl) | (simp [*, errW_none, errW_some] <;> rfl), zb⟩
      ·rw [if_neg c6] at H
       exact absurd H (by simp)
     ·rw [if_neg c5] at H
      exact absurd H (by simp)
    ·rw [if_neg c4] at H
     have c4b0 : decide (x5_1 < (l0.length : Int)) = false := decide_eq_false c4
     clear c4
     obtain rfl := Option.some.inj H
     go_wp2
     go_ret
     exact ⟨by first | rfl | (simp [errW_none, errW_some] <;> rfl) | (simp [*, errW_none, errW_some] <;> rfl), zb⟩
 ·rw [if_neg c3] at H
  have c3b0 : ((l0.length : Int) == (l1.length : Int)) = false := beq_eq_false_iff_ne.mpr c3
  have c3b1 : ((l0.length : Int) != (l1.length : Int)) = true := bne_iff_ne.mpr c3
  have c3b2 : (l0.length == l1.length) = false := by first | simpa using c3 | (simp at c3 ⊢; omega)
  obtain rfl := Option.some.inj H
  go_enter Tryd.func8, Tryd.ntmps8
  go_wp2
  go_ret
  exact ⟨by first | rfl | (simp [errW_none, errW_some] <;> rfl) | (simp [*, errW_none, errW_some] <;> rfl), zb⟩
end Go.Proofs.YtphpdfcblchpnaaDoor.Q
namespace Go.Proofs.YtphpdfcblchpnaaDoor.Q
open Go.RowKit Go.Proofs.YtphpdfcblchpnaaDoorW.PrintWords Go.Proofs.YtphpdfcblchpnaaDoorW.PrintLast Go.Proofs.YtphpdfcblchpnaaDoorW.PrintMore
attribute [local go_sem] max2_int min2_int max_two min_two max_three min_three max_four min_four   -- for this text's walks alone
set_option linter.unusedVariables false
set_option linter.unusedSimpArgs false
def laws_FnExactPolygonText.j0 : Nat → List (S35) → List (S33) → Bool → Option (Bool)
 | 0, _, _, _ => none
 | k + 1, x0, x6, x34 => if x34 = true then (some false) else ((laws_toPegS.f k x0).bind fun t271 => ((laws_eqPegS.f k x6 t271).bind fun t274 => (if t274 = true then (some true) else (some false))))
def laws_FnExactPolygonText.f (k : Nat) (l0 : List (S35)) : Option (Bool) := (laws_szPegS.f l0 1048576).bind fun t260 => (if t260 < 0 then (some true) else ((laws_toPegS.f k l0).bind fun t261 => ((spec_PolygonText.f k t261).bind fun bt264 => ((laws_toPegS.f k l0).bind fun t266 => ((impl_PolygonText.f k t266).bind fun bt269 => (if bt269.1.toList = bt264.1.toList then (laws_FnExactPolygonText.j0 k l0 t266 (bt269.2 != bt264.2)) else (laws_FnExactPolygonText.j0 k l0 t266 true)))))))
set_option maxHeartbeats 8000000 in
set_option maxRecDepth 100000 in
theorem laws_FnExactPolygonText.calls (k : Nat) (A0 : Option Addr) (c0 : Nat) (l0 : List (S35)) (r : Bool) (w : World) (hr0 : Kd.C k35 w A0 l0.length l0) (hc0 : l0.length ≤ c0) (h : laws_FnExactPolygonText.f k l0 = some r) (hlaw0 : r = true) (htab : YtphpdfcblchpnaaDoorI.TabW w := by exact YtphpdfcblchpnaaDoorI.tab_of HTAB (by repeat (first | (with_reducible first | exact HB.out | apply below_alloc | apply pw_below_drewN | apply below_drew1 | refine below_set ?_ (Aside0.out (by assumption))) | exact HB.out))) :
  Calls Tryd.prog 3 #[.slice A0 l0.length c0] w fun e w' => e = .returned (.bool r) ∧ Below w.heap.size w w' := by
 have HTAB := Aside0.mk htab
 clear htab
 have HR0 := Aside0.mk hr0
 have HC0 := Aside0.mk hc0
 clear hr0 hc0
 have HB := Aside0.mk (Below.refl w.heap.size w)
 have H : ((laws_szPegS.f l0 1048576).bind fun t260 => (if t260 < 0 then (some true) else ((laws_toPegS.f k l0).bind fun t261 => ((spec_PolygonText.f k t261).bind fun bt264 => ((laws_toPegS.f k l0).bind fun t266 => ((impl_PolygonText.f k t266).bind fun bt269 => (if bt269.1.toList = bt264.1.toList then (laws_FnExactPolygonText.j0 k l0 t266 (bt269.2 != bt264.2)) else (laws_FnExactPolygonText.j0 k l0 t266 true)))))))) = some r := h
 clear h
 have hlaw := Aside0.mk hlaw0
 clear hlaw0
 replace H := Option.bind_eq_some_iff.mp H
 obtain ⟨t260, A20, H⟩ := H
 replace H : (if t260 < 0 then (some true) else ((laws_toPegS.f k l0).bind fun t261 => ((spec_PolygonText.f k t261).bind fun bt264 => ((laws_toPegS.f k l0).bind fun t266 => ((impl_PolygonText.f k t266).bind fun bt269 => (if bt269.1.toList = bt264.1.toList then (laws_FnExactPolygonText.j0 k l0 t266 (bt269.2 != bt264.2)) else (laws_FnExactPolygonText.j0 k l0 t266 true))))))) = some r := H
 have A2 := Aside0.mk A20
 clear A20
 by_cases c3 : t260 < 0
 ·rw [if_pos c3] at H
  have c3b0 : decide (t260 < 0) = true := decide_eq_true c3
  clear c3
  obtain rfl := Option.some.inj H
  go_enter Tryd.func3, Tryd.ntmps3
  go_wp2_with (first | ((with_reducible refine gate_callee (f := 4) rfl ?_); refine goesL_ (some 11) rfl rfl Tryd.func4 (by kernel_rfl) rfl #[.slice A0 l0.length c0, .int .i64 1048576] rfl zn ?_; (with_reducible refine (laws_szPegS.calls _ _ l0 1048576 t260 _ ?side1 ?side2 A2.out).mono ?_); (case side1 => repeat (first | exact HR0.out | (with_reducible refine Kd.C_alloc ?_ _) | (with_reducible refine Kd.C_drewN ?_ _) | (with_reducible refine Kd.C_drew ?_))); (case side2 => exact HC0.out); rintro e w' ⟨rfl, ⟨nd, rfl⟩⟩; refine ⟨_, rfl, ?_⟩))
  go_ret
  exact ⟨by first | rfl | (simp [errW_none, errW_some] <;> rfl) | (simp [*, errW_none, errW_some] <;> rfl), zb⟩
 ·rw [if_neg c3] at H
  have c3b0 : decide (t260 < 0) = false := decide_eq_false c3
  clear c3
  replace H := Option.bind_eq_some_iff.mp H
  obtain ⟨t261, A40, H⟩ := H
  replace H : ((spec_PolygonText.f k t261).bind fun bt264 => ((laws_toPegS.f k l0).bind fun t266 => ((impl_PolygonText.f k t266).bind fun bt269 => (if bt269.1.toList = bt264.1.toList then (laws_FnExactPolygonText.j0 k l0 t266 (bt269.2 != bt264.2)) else (laws_FnExactPolygonText.j0 k l0 t266 true))))) = some r := H
  have A4 := Aside0.mk A40
  clear A40
  replace H := Option.bind_eq_some_iff.mp H
  obtain ⟨⟨t264, t265⟩, A50, H⟩ := H
  replace H : ((laws_toPegS.f k l0).bind fun t266 => ((impl_PolygonText.f k t266).bind fun bt269 => (if bt269.1.toList = t264.toList then (laws_FnExactPolygonText.j0 k l0 t266 (bt269.2 != t265)) else (laws_FnExactPolygonText.j0 k l0 t266 true)))) = some r := H
  have A5 := Aside0.mk A50
  clear A50
  replace H := Option.bind_eq_some_iff.mp H
  obtain ⟨t266, A60, H⟩ := H
  replace H : ((impl_PolygonText.f k t266).bind fun bt269 => (if bt269.1.toList = t264.toList then (laws_FnExactPolygonText.j0 k l0 t266 (bt269.2 != t265)) else (laws_FnExactPolygonText.j0 k l0 t266 true))) = some r := H
  have A6 := Aside0.mk A60
  clear A60
  replace H := Option.bind_eq_some_iff.mp H
  obtain ⟨⟨t269, t270⟩, A70, H⟩ := H
  replace H : (if t269.toList = t264.toList then (laws_FnExactPolygonText.j0 k l0 t266 (t270 != t265)) else (laws_FnExactPolygonText.j0 k l0 t266 true)) = some r := H
  have A7 := Aside0.mk A70
  clear A70
  have HC8 := Aside0.mk H
  clear H
  go_enter Tryd.func3, Tryd.ntmps3
  go_upto_region 8 with (first | ((with_reducible refine gate_callee (f := 4) rfl ?_); refine goesL_ (some 11) rfl rfl Tryd.func4 (by kernel_rfl) rfl #[.slice A0 l0.length c0, .int .i64 1048576] rfl zn ?_; (with_reducible refine (laws_szPegS.calls _ _ l0 1048576 t260 _ ?side1 ?side2 A2.out).mono ?_); (case side1 => repeat (first | exact HR0.out | (with_reducible refine Kd.C_alloc ?_ _) | (with_reducible refine Kd.C_drewN ?_ _) | (with_reducible refine Kd.C_drew ?_))); (case side2 => exact HC0.out); rintro e w' ⟨rfl, ⟨nd, rfl⟩⟩; refine ⟨_, rfl, ?_⟩) | ((with_reducible refine gate_callee (f := 6) rfl ?_); refine goesL_ (some 16) rfl rfl Tryd.func6 (by kernel_rfl) rfl #[.slice A0 l0.length c0] rfl zn ?_; (with_reducible refine (laws_toPegS.calls k _ _ l0 t261 _ ?side1 ?side2 A4.out).mono ?_); (case side1 => repeat (first | exact HR0.out | (with_reducible refine Kd.C_alloc ?_ _) | (with_reducible refine Kd.C_drewN ?_ _) | (with_reducible refine Kd.C_drew ?_))); (case side2 => exact HC0.out); rintro e w9 ⟨v262, rfl, ho0, hb⟩; refine ⟨_, rfl, ?_⟩; have n0_ := Aside0.mk (Kd.R_lower ho0 (below_size zb)); have n1_ := Aside0.mk (below_step zb hb); clear HB; have HO263 := n0_; have HB := n1_; clear n0_ n1_; (try clear hb); (try clear hb2); (try clear hk); (try clear hi); (try clear ho0); obtain ⟨Ao10, co10, eo10⟩ := Kd.R_slice HO263.out; subst eo10) | ((with_reducible refine gate_callee (f := 5) rfl ?_); refine goesL_ (some 17) rfl rfl Tryd.func5 (by kernel_rfl) rfl #[.slice Ao10 t261.length co10] rfl zn ?_; (with_reducible refine (spec_PolygonText.calls k _ _ t261 t264 t265 _ ?side1 ?side2 A5.out).mono ?_); (case side1 => repeat (first | exact (Kd.R_reads' HO263.out).2.2 | (with_reducible refine Kd.C_alloc ?_ _) | (with_reducible refine Kd.C_drewN ?_ _) | (with_reducible refine Kd.C_drew ?_))); (case side2 => exact (Kd.R_reads' HO263.out).2.1); rintro e w11 ⟨rfl, hb⟩; refine ⟨_, rfl, ?_⟩; have n0_ := Aside0.mk (Kd.R_below (by (with_reducible repeat (first | apply Kd.R_alloc | apply Kd.R_drewN | apply Kd.R_drew)); exact HO263.out) hb); have n1_ := Aside0.mk (below_step zb hb); clear HO263; clear HB; have HO263 := n0_; have HB := n1_; clear n0_ n1_; (try clear hb); (try clear hb2); (try clear hk); (try clear hi)) | ((with_reducible refine gate_callee (f := 6) rfl ?_); refine goesL_ (some 21) rfl rfl Tryd.func6 (by kernel_rfl) rfl #[.slice A0 l0.length c0] rfl zn ?_; (with_reducible refine (laws_toPegS.calls k _ _ l0 t266 _ ?side1 ?side2 A6.out).mono ?_); (case side1 => repeat (first | exact (Kd.C_below HR0.out HB.out) | (with_reducible refine Kd.C_alloc ?_ _) | (with_reducible refine Kd.C_drewN ?_ _) | (with_reducible refine Kd.C_drew ?_))); (case side2 => exact HC0.out); rintro e w12 ⟨v267, rfl, ho0, hb⟩; refine ⟨_, rfl, ?_⟩; have n0_ := Aside0.mk (Kd.R_elder' (by (with_reducible repeat (first | apply Kd.R_alloc | apply Kd.R_drewN | apply Kd.R_drew)); exact HO263.out) (Kd.R_base ho0) hb); have n1_ := Aside0.mk (Kd.R_lower (Kd.R_new' ho0 (Kd.R_lt (by (with_reducible repeat (first | apply Kd.R_alloc | apply Kd.R_drewN | apply Kd.R_drew)); exact HO263.out))) (below_size zb)); have n2_ := Aside0.mk (below_step zb hb); clear HO263; clear HB; have HO263 := n0_; have HO268 := n1_; have HB := n2_; clear n0_ n1_ n2_; (try clear hb); (try clear hb2); (try clear hk); (try clear hi); (try clear ho0); obtain ⟨Ao13, co13, eo13⟩ := Kd.R_slice HO268.out; subst eo13) | ((with_reducible refine gate_callee (f := 7) rfl ?_); refine goesL_ (some 24) rfl rfl Tryd.func7 (by kernel_rfl) rfl #[.slice Ao13 t266.length co13] rfl zn ?_; (with_reducible refine (impl_PolygonText.calls k _ _ t266 t269 t270 _ ?side1 ?side2 A7.out).mono ?_); (case side1 => repeat (first | exact (Kd.R_reads' HO268.out).2.2 | (with_reducible refine Kd.C_alloc ?_ _) | (with_reducible refine Kd.C_drewN ?_ _) | (with_reducible refine Kd.C_drew ?_))); (case side2 => exact (Kd.R_reads' HO268.out).2.1); rintro e w14 ⟨rfl, hb⟩; refine ⟨_, rfl, ?_⟩; have n0_ := Aside0.mk (Kd.R_below (by (with_reducible repeat (first | apply Kd.R_alloc | apply Kd.R_drewN | apply Kd.R_drew)); exact HO263.out) hb); have n1_ := Aside0.mk (Kd.R_below (by (with_reducible repeat (first | apply Kd.R_alloc | apply Kd.R_drewN | apply Kd.R_drew)); exact HO268.out) hb); have n2_ := Aside0.mk (below_step zb hb); clear HO263; clear HO268; clear HB; have HO263 := n0_; have HO268 := n1_; have HB := n2_; clear n0_ n1_ n2_; (try clear hb); (try clear hb2); (try clear hk); (try clear hi)))
  (try simp only [Act.put, List.setIfInBounds_toArray, List.set_cons_zero, List.set_cons_succ])
  go_cut [34] (fun v34 wc => ∃ (kq : Nat) (x34_7 : Bool), v34 = .bool x34_7 ∧ Aside0 (laws_FnExactPolygonText.j0 kq l0 t266 x34_7 = some r) ∧ Aside0 (kq ≤ k) ∧ Aside0 (Kd.R k33 33 wc w.heap.size (fun _ => True) (.slice Ao13 t266.length co13) t266) ∧ Aside0 (Below w.heap.size w wc))
  case first =>
   have H := HC8.out
   clear HC8
   by_cases c15 : t269.toList = t264.toList
   ·rw [if_pos c15] at H
    have c15b0 : (t269.toList == t264.toList) = true := beq_iff_eq.mpr c15
    have c15b1 : (t269.toList != t264.toList) = false := bne_eq_false_iff_eq.mpr c15
    clear c15
    (first | rw [c15b0] | (simp only [i64_w, i32_w]; rw [c15b0]) | skip)
    have H' := Aside0.mk H
    clear H
    go_wp2
    go_meet
    case rel => exact ⟨_, ((t270 != t265)), (by first | rfl | (simp; done) | (simp [*]; done)), H', ⟨by first | omega | exact Nat.le_refl _⟩, ⟨by (with_reducible repeat (first | apply Kd.R_alloc | apply Kd.R_drewN | apply Kd.R_drew)); exact Kd.R_mono HO268.out (fun _ hk => trivial)⟩, ⟨zb⟩⟩
   ·rw [if_neg c15] at H
    have c15b0 : (t269.toList == t264.toList) = false := beq_eq_false_iff_ne.mpr c15
    have c15b1 : (t269.toList != t264.toList) = true := bne_iff_ne.mpr c15
    (first | rw [c15b0] | (simp only [i64_w, i32_w]; rw [c15b0]) | skip)
    have H' := Aside0.mk H
    clear H
    go_wp2
    go_meet
    case rel => exact ⟨_, (true), (by first | rfl | (simp; done) | (simp [*]; done)), H', ⟨by first | omega | exact Nat.le_refl _⟩, ⟨by (with_reducible repeat (first | apply Kd.R_alloc | apply Kd.R_drewN | apply Kd.R_drew)); exact Kd.R_mono HO268.out (fun _ hk => trivial)⟩, ⟨zb⟩⟩
  case rest =>
   clear HC8
   try clear c1
   try clear p2
   try clear c3
   try clear c3b0
   try clear c4
   try clear c5
   try clear c6
   try clear c7
   try clear c15
   try clear c15b0
   try clear c15b1
   obtain ⟨kq, x34_7, rfl, HA, HJ7, HO_6, HB⟩ := hcut
   cases kq with
   | zero => exact absurd HA.out (by simp [laws_FnExactPolygonText.j0])
   | succ kj7 =>
    have H := HA.out
    clear HA
    simp only [laws_FnExactPolygonText.j0] at H
    by_cases c16 : x34_7 = true
    ·subst c16
     have H1 : (some false) = some r := by rw [if_pos rfl] at H; exact H
     clear H
     have H := H1
     clear H1
     rw [hlaw.out] at H
     exact absurd H (by simp)
    ·replace c16 := Bool.eq_false_iff.mpr c16
     subst c16
     have H1 : ((laws_toPegS.f kj7 l0).bind fun t271 => ((laws_eqPegS.f kj7 t266 t271).bind fun t274 => (if t274 = true then (some true) else (some false)))) = some r := by rw [if_neg (show ¬ (false = true) by decide)] at H; exact H
     clear H
     have H := H1
     clear H1
     replace H := Option.bind_eq_some_iff.mp H
     obtain ⟨t271, A170, H⟩ := H
     replace H : ((laws_eqPegS.f kj7 t266 t271).bind fun t274 => (if t274 = true then (some true) else (some false))) = some r := H
     have A17 := Aside0.mk A170
     clear A170
     replace H := Option.bind_eq_some_iff.mp H
     obtain ⟨t274, A180, H⟩ := H
     replace H : (if t274 = true then (some true) else (some false)) = some r := H
     have A18 := Aside0.mk A180
     clear A180
     by_cases c19 : t274 = true
     ·subst c19
      have H1 : (some true) = some r := by rw [if_pos rfl] at H; exact H
      clear H
      have H := H1
      clear H1
      obtain rfl := Option.some.inj H
      go_wp2_with (first | ((with_reducible refine gate_callee (f := 6) rfl ?_); refine goesL_ (some 37) rfl rfl Tryd.func6 (by kernel_rfl) rfl #[.slice A0 l0.length c0] rfl zn ?_; (with_reducible refine (laws_toPegS.calls kj7 _ _ l0 t271 _ ?side1 ?side2 A17.out).mono ?_); (case side1 => repeat (first | exact (Kd.C_below HR0.out HB.out) | (with_reducible refine Kd.C_alloc ?_ _) | (with_reducible refine Kd.C_drewN ?_ _) | (with_reducible refine Kd.C_drew ?_))); (case side2 => exact HC0.out); rintro e w20 ⟨v272, rfl, ho0, hb⟩; refine ⟨_, rfl, ?_⟩; have n0_ := Aside0.mk (Kd.R_elder' (by (with_reducible repeat (first | apply Kd.R_alloc | apply Kd.R_drewN | apply Kd.R_drew)); exact HO_6.out) (Kd.R_base ho0) hb); have n1_ := Aside0.mk (Kd.R_lower (Kd.R_new' ho0 (Kd.R_lt (by (with_reducible repeat (first | apply Kd.R_alloc | apply Kd.R_drewN | apply Kd.R_drew)); exact HO_6.out))) (below_size zb)); have n2_ := Aside0.mk (below_step zb hb); clear HO_6; clear HB; have HO_6 := n0_; have HO273 := n1_; have HB := n2_; clear n0_ n1_ n2_; (try clear hb); (try clear hb2); (try clear hk); (try clear hi); (try clear ho0); obtain ⟨Ao21, co21, eo21⟩ := Kd.R_slice HO273.out; subst eo21) | ((with_reducible refine gate_callee (f := 8) rfl ?_); refine goesL_ (some 38) rfl rfl Tryd.func8 (by kernel_rfl) rfl #[.slice Ao13 t266.length co13, .slice Ao21 t271.length co21] rfl zn ?_; (with_reducible refine (laws_eqPegS.calls kj7 _ _ t266 _ _ t271 true _ ?side1 ?side2 ?side3 ?side4 A18.out).mono ?_); (case side1 => repeat (first | exact (Kd.R_reads' HO_6.out).2.2 | (with_reducible refine Kd.C_alloc ?_ _) | (with_reducible refine Kd.C_drewN ?_ _) | (with_reducible refine Kd.C_drew ?_))); (case side2 => exact (Kd.R_reads' HO_6.out).2.1); (case side3 => repeat (first | exact (Kd.R_reads' HO273.out).2.2 | (with_reducible refine Kd.C_alloc ?_ _) | (with_reducible refine Kd.C_drewN ?_ _) | (with_reducible refine Kd.C_drew ?_))); (case side4 => exact (Kd.R_reads' HO273.out).2.1); rintro e w22 ⟨rfl, hb⟩; refine ⟨_, rfl, ?_⟩; have n0_ := Aside0.mk (Kd.R_below (by (with_reducible repeat (first | apply Kd.R_alloc | apply Kd.R_drewN | apply Kd.R_drew)); exact HO_6.out) hb); have n1_ := Aside0.mk (Kd.R_below (by (with_reducible repeat (first | apply Kd.R_alloc | apply Kd.R_drewN | apply Kd.R_drew)); exact HO273.out) hb); have n2_ := Aside0.mk (below_step zb hb); clear HO_6; clear HO273; clear HB; have HO_6 := n0_; have HO273 := n1_; have HB := n2_; clear n0_ n1_ n2_; (try clear hb); (try clear hb2); (try clear hk); (try clear hi)))
      go_ret
      exact ⟨by first | rfl | (simp [errW_none, errW_some] <;> rfl) | (simp [*, errW_none, errW_some] <;> rfl), zb⟩
     ·replace c19 := Bool.eq_false_iff.mpr c19
      subst c19
      have H1 : (some false) = some r := by rw [if_neg (show ¬ (false = true) by decide)] at H; exact H
      clear H
      have H := H1
      clear H1
      rw [hlaw.out] at H
      exact absurd H (by simp)
end Go.Proofs.YtphpdfcblchpnaaDoor.Q
namespace Go.Proofs.YtphpdfcblchpnaaDoor.D
open Go.RowKit Go.Proofs.YtphpdfcblchpnaaDoor.Q Go.Proofs.YtphpdfcblchpnaaDoorW.PrintWords Go.Proofs.YtphpdfcblchpnaaDoorW.PrintLast Go.Proofs.YtphpdfcblchpnaaDoorW.PrintMore
open Go.Proofs.YtphpdfcblchpnaaDoor.M
def to33 (s : S35) : S33 := ⟨s.f0, s.f1⟩
theorem toPegS_loop (l : List S35) (hl : l.length ≤ 2000000) : ∀ (d i : Nat) (x : List S33), l.length - i = d → i ≤ l.length → x.length = l.length → x.take i = (l.map to33).take i →
    Ev (fun k => laws_toPegS.l0 k l x (i : Int)) (l.map to33) := by
  intro d
  induction d with
  | zero =>
    intro i x hd hi hx ht
    obtain rfl : i = l.length := by omega
    refine Ev.step (f := fun _ => some x) (fun k => ?_) ?_
    · simp only [laws_toPegS.l0]
      rw [if_neg (by omega)]
    · have e : x = l.map to33 := by
        rw [← hx, List.take_length] at ht
        rw [ht, hx, List.take_of_length_le (by simp)]
      rw [← e]
      exact Ev.now _
  | succ d ih =>
    intro i x hd hi hx ht
    have hr : rd_T35 l (i : Int) = l[i]'(by omega) := by
      have h : i < l.length := by omega
      simp [rd_T35, List.getD, h]
    refine Ev.step (f := fun k => laws_toPegS.l0 k l (x.set i (to33 (l[i]'(by omega)))) ((i + 1 : Nat) : Int)) (fun k => ?_) (ih (i + 1) (x.set i (to33 (l[i]'(by omega)))) (by omega) (by omega) (by simpa using hx) ?_)
    · simp only [laws_toPegS.l0]
      rw [if_pos (by omega), if_pos (by omega), hr, cast_succ i (by omega)]
      simp only [laws_toPeg.f, Option.bind_some]
      rw [if_pos (by omega), Int.toNat_natCast]
      rfl
    · rw [List.take_succ_eq_append_getElem (by simp; omega), List.take_succ_eq_append_getElem (by simp; omega), List.take_set_of_le (Nat.le_refl _), ht]
      simp
theorem toPegS_ev (l : List S35) (hl : l.length ≤ 2000000) : Ev (fun k => laws_toPegS.f k l) (l.map to33) := by
  refine Ev.congr (f := fun k => laws_toPegS.l0 k l (List.replicate l.length z33) ((0 : Nat) : Int)) (fun k => ?_) (toPegS_loop l hl l.length 0 _ (by omega) (by omega) (by simp) (by simp))
  unfold laws_toPegS.f
  rw [if_pos (by omega), if_pos (by omega), Int.toNat_natCast]
  rfl
theorem eqPegS_ev (l : List S33) (hl : l.length ≤ 2000000) : Ev (fun k => laws_eqPegS.f k l l) true := by
  have key : ∀ d i : Nat, l.length - i = d → i ≤ l.length → Ev (fun k => laws_eqPegS.l0 k l l (i : Int)) true := by
    intro d
    induction d with
    | zero =>
      intro i hd hi
      refine Ev.step (f := fun _ => some true) (fun k => ?_) (Ev.now _)
      simp only [laws_eqPegS.l0]
      rw [if_neg (by omega)]
    | succ d ih =>
      intro i hd hi
      refine Ev.step (fun k => ?_) (ih (i + 1) (by omega) (by omega))
      simp only [laws_eqPegS.l0]
      rw [if_pos (by omega), if_pos (by omega), if_pos (by omega), cast_succ i (by omega)]
      simp [laws_eqPeg.f]
  refine Ev.congr (fun k => ?_) (key l.length 0 (by omega) (by omega))
  unfold laws_eqPegS.f
  rw [if_pos rfl]
  rfl
end Go.Proofs.YtphpdfcblchpnaaDoor.D
namespace Go.Proofs.YtphpdfcblchpnaaDoor.D
open Go.RowKit Go.Proofs.YtphpdfcblchpnaaDoor.Q Go.Proofs.YtphpdfcblchpnaaDoorW.PrintWords Go.Proofs.YtphpdfcblchpnaaDoorW.PrintLast Go.Proofs.YtphpdfcblchpnaaDoorW.PrintMore
open Go.Proofs.YtphpdfcblchpnaaDoor.M
def bs (l : List UInt8) : ByteArray := ⟨l.toArray⟩
theorem bs_append (a b : List UInt8) : bs a ++ bs b = bs (a ++ b) := by
  apply ByteArray.ext
  simp [bs]
theorem bs_size (a : List UInt8) : (bs a).size = a.length := by simp [bs, ByteArray.size]
theorem one_digit : ∀ i : Fin 10, strOfNums [(wrap64 (48 + (i.val : Int))) % 256] = bs [UInt8.ofNat (48 + i.val)] := by decide +kernel
theorem l1Num_small (u : Nat) (h : u < 10) (k : Nat) : spec_l1Num.f (k + 1) (u : Int) = some (bs (Go.Lib.decDigits u)) := by
  have e := one_digit ⟨u, h⟩
  simp only [spec_l1Num.f]
  rw [if_pos (by omega), e, Go.Lib.decDigits_one h]
theorem l1Num_succ (k : Nat) (a0 : Int) : spec_l1Num.f (k + 1) a0 = if a0 < 10 then (some (strOfNums (([(wrap64 (48 + a0)) % 256] : List Int)))) else ((spec_l1Num.f k (wrap64 (Int.tdiv a0 10))).bind fun t149 => ((some (([(wrap64 (48 + (Int.tmod a0 10))) % 256] : List Int) : List Int)).bind fun y150 => (if t149.size + (strOfNums y150).size ≤ 9223372036854775807 then (some (t149 ++ (strOfNums y150))) else (none)))) := by
  simp only [spec_l1Num.f]
theorem l1Num_ev (u : Nat) (h : u < 100) : Ev (fun k => spec_l1Num.f k (u : Int)) (bs (Go.Lib.decDigits u)) := by
  by_cases h1 : u < 10
  · exact ⟨1, fun k hk => by
      obtain ⟨m, rfl⟩ : ∃ m, k = m + 1 := ⟨k - 1, by omega⟩
      exact l1Num_small u h1 m⟩
  · refine ⟨2, fun k hk => ?_⟩
    obtain ⟨m, rfl⟩ : ∃ m, k = m + 2 := ⟨k - 2, by omega⟩
    have e1 : wrap64 (Int.tdiv (u : Int) 10) = ((u / 10 : Nat) : Int) := by
      rw [show ((10 : Int)) = ((10 : Nat) : Int) from rfl, ← Int.ofNat_tdiv, w64 (by omega) (by omega)]
    have e2 : Int.tmod (u : Int) 10 = ((u % 10 : Nat) : Int) := by
      rw [show ((10 : Int)) = ((10 : Nat) : Int) from rfl, tmod_nat]
    have e := one_digit ⟨u % 10, Nat.mod_lt _ (by omega)⟩
    have e3 : (Go.Lib.decDigits (u / 10)).length = 1 := by rw [Go.Lib.decDigits_one (by omega)]; rfl
    show spec_l1Num.f ((m + 1) + 1) (u : Int) = _
    rw [l1Num_succ]
    rw [if_neg (by omega), e1, e2, l1Num_small (u / 10) (by omega) m]
    simp only [Option.bind_some]
    rw [e, bs_append, if_pos (by rw [bs_size, bs_size, e3]; simp), Go.Lib.decDigits_two h1 h, Go.Lib.decDigits_one (by omega)]
    rfl
theorem l1Int_ev (n : Int) (h1 : -99 ≤ n) (h2 : n ≤ 99) : Ev (fun k => spec_l1Int.f k n) (bs (Go.Lib.itoa n)) := by
  unfold spec_l1Int.f Go.Lib.itoa
  by_cases h : n < 0
  · simp only [if_pos h]
    have e : wrap64 (-n) = ((n.natAbs : Nat) : Int) := by rw [w64 (by omega) (by omega)]; omega
    rw [e]
    refine Ev.bind (l1Num_ev n.natAbs (by omega)) ?_
    refine Ev.congr (f := fun _ => some (bs (45 :: Go.Lib.decDigits n.natAbs))) (fun k => ?_) (Ev.now _)
    have := Go.Lib.itoa_length_le n (by omega) (by omega)
    unfold Go.Lib.itoa at this
    rw [if_pos h] at this
    rw [if_pos (by rw [bs_size]; simp at this; omega)]
    exact congrArg some (bs_append [45] _)
  · simp only [if_neg h]
    have e : n = ((n.toNat : Nat) : Int) := by omega
    have := l1Num_ev n.toNat (by omega)
    rw [← e] at this
    exact Ev.bind this (Ev.now _)
theorem itoa_eq (n : Int) (h1 : -99 ≤ n) (h2 : n ≤ 99) : strconv_Itoa_26.f n = some (bs (Go.Lib.itoa n)) := by
  unfold strconv_Itoa_26.f
  rw [if_pos (by omega)]
  rfl
def word (p : S33) : List UInt8 := Go.Lib.itoa p.f0 ++ 44 :: Go.Lib.itoa p.f1
def near1 (p : S33) : Prop := -40 ≤ p.f0 ∧ p.f0 ≤ 40 ∧ -40 ≤ p.f1 ∧ p.f1 ≤ 40
theorem itoa_len (n : Int) (h1 : -99 ≤ n) (h2 : n ≤ 99) : (Go.Lib.itoa n).length ≤ 21 := Go.Lib.itoa_length_le n (by omega) (by omega)
theorem word_len (p : S33) (h : near1 p) : (word p).length ≤ 43 := by
  have a := itoa_len p.f0 (by have := h.1; omega) (by have := h.2.1; omega)
  have b := itoa_len p.f1 (by have := h.2.2.1; omega) (by have := h.2.2.2; omega)
  unfold word
  simp
  omega
theorem word_made (p : S33) : (bs (Go.Lib.itoa p.f0) ++ (⟨#[44]⟩ : ByteArray)) ++ bs (Go.Lib.itoa p.f1) = bs (word p) := by
  rw [show (⟨#[44]⟩ : ByteArray) = bs [44] from rfl, bs_append, bs_append]
  unfold word
  rw [List.append_assoc]
  rfl
def txt (l : List S33) : List UInt8 := Go.Lib.join (l.map word) [32]
theorem txt_snoc (l : List S33) (p : S33) (h : l ≠ []) : txt (l ++ [p]) = txt l ++ 32 :: word p := by
  cases l with
  | nil => exact absurd rfl h
  | cons a l =>
    unfold txt
    rw [List.map_append, List.map_cons, List.cons_append, Go.Lib.join_cons, Go.Lib.join_cons]
    unfold Go.Lib.joinTail
    simp
theorem txt_one (p : S33) : txt [p] = word p := Go.Lib.join_one _ _
theorem txt_len (l : List S33) (h : ∀ p ∈ l, near1 p) : (txt l).length ≤ l.length * 44 := by
  cases l with
  | nil => simp [txt, Go.Lib.join_nil]
  | cons a l =>
    have key : ∀ l : List S33, (∀ p ∈ l, near1 p) → (Go.Lib.joinTail [32] (l.map word)).length ≤ l.length * 44 := by
      intro l
      induction l with
      | nil => intro _; simp [Go.Lib.joinTail]
      | cons b l ih =>
        intro h
        have i1 := ih (fun p hp => h p (by simp [hp]))
        have i2 := word_len b (h b (by simp))
        unfold Go.Lib.joinTail at i1 ⊢
        simp only [List.map_cons, List.flatten_cons, List.length_append, List.length_cons, List.length_nil] at i1 ⊢
        omega
    have k1 := key l (fun p hp => h p (by simp [hp]))
    have k2 := word_len a (h a (by simp))
    unfold txt
    rw [List.map_cons, Go.Lib.join_cons, List.length_append]
    simp only [List.length_cons]
    omega
theorem pgText_ev (l : List S33) (hl : l.length ≤ 1000) (hn : ∀ p ∈ l, near1 p) : Ev (fun k => spec_pgText.f k l) (bs (txt l)) := by
  have key : ∀ i, i ≤ l.length → Ev (fun k => spec_pgText.l0 k (bs (txt (l.take i))) l (l.length : Int) (i : Int)) (bs (txt l)) := by
    refine loop_ev (L := fun k i => spec_pgText.l0 k (bs (txt (l.take i))) l (l.length : Int) (i : Int)) (r := fun _ => bs (txt l)) ?_ ?_
    · refine Ev.step (f := fun _ => some (bs (txt l))) (fun k => ?_) (Ev.now _)
      simp only [spec_pgText.l0]
      rw [if_neg (by omega), List.take_length]
    · intro i hi ih
      have hp : near1 l[i] := hn _ (List.getElem_mem hi)
      have hr : rd_T33 l (i : Int) = l[i] := by
        unfold rd_T33
        simp [List.getD, hi]
      have n0 : -99 ≤ (l[i]).f0 := by have := hp.1; omega
      have n1 : (l[i]).f0 ≤ 99 := by have := hp.2.1; omega
      have n2 : -99 ≤ (l[i]).f1 := by have := hp.2.2.1; omega
      have n3 : (l[i]).f1 ≤ 99 := by have := hp.2.2.2; omega
      have s0 := itoa_len _ n0 n1
      have s1 := itoa_len _ n2 n3
      have hx := txt_len (l.take i) (fun p hp => hn p (List.mem_of_mem_take hp))
      rw [List.length_take] at hx
      have htk : l.take (i + 1) = l.take i ++ [l[i]] := List.take_succ_eq_append_getElem hi
      have wl := word_len _ hp
      have wm := word_made l[i]
      by_cases h0 : i = 0
      · subst h0
        refine Ev.step (f := fun k => (spec_l1Int.f k (l[0]).f0).bind fun t159 => (if t159.size + 1 ≤ 9223372036854775807 then ((spec_l1Int.f k (l[0]).f1).bind fun t160 => (if (t159 ++ (⟨#[44]⟩ : ByteArray)).size + t160.size ≤ 9223372036854775807 then (if (bs (txt (l.take 0))).size + ((t159 ++ (⟨#[44]⟩ : ByteArray)) ++ t160).size ≤ 9223372036854775807 then (spec_pgText.l0 k (bs (txt (l.take 0)) ++ ((t159 ++ (⟨#[44]⟩ : ByteArray)) ++ t160)) l (l.length : Int) ((0 + 1 : Nat) : Int)) else (none)) else (none))) else (none))) (fun k => ?_) ?_
        · simp only [spec_pgText.l0]
          rw [if_pos (by omega), if_pos (by omega), if_pos (by omega), if_neg (by omega), cast_succ 0 (by omega), hr]
        · refine Ev.bind (l1Int_ev _ n0 n1) ?_
          refine Ev.congr (fun k => if_pos (by rw [bs_size]; omega)) (Ev.bind (l1Int_ev _ n2 n3) ?_)
          rw [wm]
          refine Ev.congr (fun k => if_pos (by rw [show (⟨#[44]⟩ : ByteArray) = bs [44] from rfl, bs_append, bs_size, bs_size, List.length_append, List.length_singleton]; omega)) (Ev.congr (fun k => if_pos (by rw [bs_size, bs_size]; omega)) ?_)
          rw [bs_append]
          have e : txt (l.take 0) ++ word l[0] = txt (l.take (0 + 1)) := by
            rw [htk, List.take_zero, List.nil_append, txt_one]
            rfl
          rw [e]
          exact ih
      · refine Ev.step (f := fun k => (spec_l1Int.f k (l[i]).f0).bind fun t159 => (if t159.size + 1 ≤ 9223372036854775807 then ((spec_l1Int.f k (l[i]).f1).bind fun t160 => (if (t159 ++ (⟨#[44]⟩ : ByteArray)).size + t160.size ≤ 9223372036854775807 then (if (bs (txt (l.take i)) ++ (⟨#[32]⟩ : ByteArray)).size + ((t159 ++ (⟨#[44]⟩ : ByteArray)) ++ t160).size ≤ 9223372036854775807 then (spec_pgText.l0 k ((bs (txt (l.take i)) ++ (⟨#[32]⟩ : ByteArray)) ++ ((t159 ++ (⟨#[44]⟩ : ByteArray)) ++ t160)) l (l.length : Int) ((i + 1 : Nat) : Int)) else (none)) else (none))) else (none))) (fun k => ?_) ?_
        · simp only [spec_pgText.l0]
          rw [if_pos (by omega), if_pos (by omega), if_pos (by omega), if_pos (by omega), if_pos (by rw [bs_size]; omega), cast_succ i (by omega), hr]
        · refine Ev.bind (l1Int_ev _ n0 n1) ?_
          refine Ev.congr (fun k => if_pos (by rw [bs_size]; omega)) (Ev.bind (l1Int_ev _ n2 n3) ?_)
          rw [wm]
          rw [show (⟨#[32]⟩ : ByteArray) = bs [32] from rfl, bs_append]
          refine Ev.congr (fun k => if_pos (by rw [show (⟨#[44]⟩ : ByteArray) = bs [44] from rfl, bs_append, bs_size, bs_size, List.length_append, List.length_singleton]; omega)) (Ev.congr (fun k => if_pos (by rw [bs_size, bs_size, List.length_append, List.length_singleton]; omega)) ?_)
          rw [bs_append]
          have e : txt (l.take i) ++ [32] ++ word l[i] = txt (l.take (i + 1)) := by
            rw [htk, txt_snoc _ _ (by
              intro hh
              have : (l.take i).length = 0 := by rw [hh]; rfl
              rw [List.length_take] at this
              omega), List.append_assoc]
            rfl
          rw [e]
          exact ih
  exact key 0 (Nat.zero_le _)
theorem pegsText_ev (l : List S33) (hl : l.length ≤ 1000) (hn : ∀ p ∈ l, near1 p) : Ev (fun k => impl_pegsText.f k l) (bs (txt l)) := by
  have key : ∀ i, i ≤ l.length → Ev (fun k => impl_pegsText.l0 k ((l.take i).map fun p => bs (word p)) l (l.length : Int) (i : Int)) (bs (txt l)) := by
    refine loop_ev (L := fun k i => impl_pegsText.l0 k ((l.take i).map fun p => bs (word p)) l (l.length : Int) (i : Int)) (r := fun _ => bs (txt l)) ?_ ?_
    · refine Ev.step (f := fun _ => some (bs (txt l))) (fun k => ?_) (Ev.now _)
      simp only [impl_pegsText.l0]
      rw [if_neg (by omega), List.take_length]
      have e : (l.map fun p => bs (word p)).map (fun x : ByteArray => x.data.toList) = l.map word := by
        rw [List.map_map]
        refine List.map_congr_left fun p _ => ?_
        simp [bs]
      have e2 : (⟨#[32]⟩ : ByteArray).data.toList = [32] := rfl
      have tl := txt_len l hn
      unfold strings_Join.f
      rw [e, e2, if_pos ⟨by rw [List.length_map]; omega, by unfold txt at tl; omega⟩]
      rfl
    · intro i hi ih
      have hp : near1 l[i] := hn _ (List.getElem_mem hi)
      have hr : rd_T33 l (i : Int) = l[i] := by
        unfold rd_T33
        simp [List.getD, hi]
      have n0 : -99 ≤ (l[i]).f0 := by have := hp.1; omega
      have n1 : (l[i]).f0 ≤ 99 := by have := hp.2.1; omega
      have n2 : -99 ≤ (l[i]).f1 := by have := hp.2.2.1; omega
      have n3 : (l[i]).f1 ≤ 99 := by have := hp.2.2.2; omega
      have s0 := itoa_len _ n0 n1
      have s1 := itoa_len _ n2 n3
      have htk : l.take (i + 1) = l.take i ++ [l[i]] := List.take_succ_eq_append_getElem hi
      have wm := word_made l[i]
      refine Ev.step (fun k => ?_) ih
      simp only [impl_pegsText.l0]
      rw [if_pos (by omega), if_pos (by omega), if_pos (by omega), hr, itoa_eq _ n0 n1]
      simp only [Option.bind_some]
      rw [if_pos (by rw [bs_size]; omega), itoa_eq _ n2 n3]
      simp only [Option.bind_some]
      rw [if_pos (by rw [show (⟨#[44]⟩ : ByteArray) = bs [44] from rfl, bs_append, bs_size, bs_size, List.length_append, List.length_singleton]; omega), if_pos (by rw [List.length_map, List.length_take]; omega), cast_succ i (by omega), wm, htk, List.map_append]
      rfl
  exact key 0 (Nat.zero_le _)
end Go.Proofs.YtphpdfcblchpnaaDoor.D
namespace Go.Proofs.YtphpdfcblchpnaaDoor.D
open Go.RowKit Go.Proofs.YtphpdfcblchpnaaDoor.Q Go.Proofs.YtphpdfcblchpnaaDoorW.PrintWords Go.Proofs.YtphpdfcblchpnaaDoorW.PrintLast Go.Proofs.YtphpdfcblchpnaaDoorW.PrintMore
open Go.Proofs.YtphpdfcblchpnaaDoor.M
theorem near_of {l : List S33} (h : Poly (pgs l)) : ∀ p ∈ l, near1 p := fun _ hp => h.pegs _ (List.mem_map_of_mem hp)
theorem text_both (l : List S33) : ∃ r : ByteArray × Bool, Ev (fun k => spec_PolygonText.f k l) r ∧ Ev (fun k => impl_PolygonText.f k l) r := by
  have hs := pgGood_ev l
  have hi := isPolygon_ev l
  by_cases h : Poly (pgs l)
  · have h10 := h.n10
    rw [pgs_length] at h10
    rw [dec_true h] at hs hi
    refine ⟨(bs (txt l), true), ?_, ?_⟩
    · refine Ev.congr (f := fun k => (spec_pgGood.f k l).bind fun t => (if t = true then ((spec_pgText.f k l).bind fun t2 => (some (t2, true))) else (some ((⟨#[]⟩ : ByteArray), false)))) (fun k => rfl) (Ev.bind hs ?_)
      exact Ev.congr (fun k => if_pos rfl) (Ev.bind (pgText_ev l (by omega) (near_of h)) (Ev.now _))
    · refine Ev.congr (f := fun k => (impl_IsPolygon.f k l).bind fun t => (if t = true then ((impl_pegsText.f k l).bind fun t2 => (some (t2, true))) else (some ((⟨#[]⟩ : ByteArray), false)))) (fun k => rfl) (Ev.bind hi ?_)
      exact Ev.congr (fun k => if_pos rfl) (Ev.bind (pegsText_ev l (by omega) (near_of h)) (Ev.now _))
  · rw [dec_false h] at hs hi
    refine ⟨((⟨#[]⟩ : ByteArray), false), ?_, ?_⟩
    · refine Ev.congr (f := fun k => (spec_pgGood.f k l).bind fun t => (if t = true then ((spec_pgText.f k l).bind fun t2 => (some (t2, true))) else (some ((⟨#[]⟩ : ByteArray), false)))) (fun k => rfl) (Ev.bind hs ?_)
      exact Ev.congr (fun k => if_neg (by simp)) (Ev.now _)
    · refine Ev.congr (f := fun k => (impl_IsPolygon.f k l).bind fun t => (if t = true then ((impl_pegsText.f k l).bind fun t2 => (some (t2, true))) else (some ((⟨#[]⟩ : ByteArray), false)))) (fun k => rfl) (Ev.bind hi ?_)
      exact Ev.congr (fun k => if_neg (by simp)) (Ev.now _)
theorem law3_ev (l : List S35) (hm : l.length ≤ 9223372036854775807) : ∃ k, laws_FnExactPolygonText.f k l = some true := by
  by_cases hl : l.length ≤ 1048576
  · have hsz : laws_szPegS.f l 1048576 = some (1048576 - (l.length : Int)) := by
      have e1 : wrap64 (1048576 - (l.length : Int)) = (1048576 : Int) - (l.length : Int) := w64 (by omega) (by omega)
      unfold laws_szPegS.f
      rw [e1, if_neg (by omega)]
    obtain ⟨r, hs, hi⟩ := text_both (l.map to33)
    have ht := toPegS_ev l (by omega)
    have he := eqPegS_ev (l.map to33) (by simp; omega)
    have hj : Ev (fun k => laws_FnExactPolygonText.j0 k l (l.map to33) false) true := by
      refine Ev.step (f := fun k => (laws_toPegS.f k l).bind fun t271 => ((laws_eqPegS.f k (l.map to33) t271).bind fun t274 => (if t274 = true then (some true) else (some false)))) (fun k => ?_) ?_
      · simp only [laws_FnExactPolygonText.j0]
        rw [if_neg (by simp)]
      · exact Ev.bind ht (Ev.bind he (Ev.congr (fun k => if_pos rfl) (Ev.now _)))
    have : Ev (fun k => laws_FnExactPolygonText.f k l) true := by
      refine Ev.congr (f := fun k => (laws_toPegS.f k l).bind fun t261 => ((spec_PolygonText.f k t261).bind fun bt264 => ((laws_toPegS.f k l).bind fun t266 => ((impl_PolygonText.f k t266).bind fun bt269 => (if bt269.1.toList = bt264.1.toList then (laws_FnExactPolygonText.j0 k l t266 (bt269.2 != bt264.2)) else (laws_FnExactPolygonText.j0 k l t266 true)))))) (fun k => ?_) ?_
      · unfold laws_FnExactPolygonText.f
        rw [hsz]
        simp only [Option.bind_some]
        rw [if_neg (by omega)]
      · refine Ev.bind ht (Ev.bind hs (Ev.bind ht (Ev.bind hi ?_)))
        refine Ev.congr (fun k => if_pos rfl) ?_
        rw [show (r.2 != r.2) = false from by simp]
        exact hj
    exact this.rounds
  · have e1 : wrap64 ((1048576 : Int) - (l.length : Int)) < 0 := by
      unfold wrap64
      omega
    refine ⟨0, ?_⟩
    unfold laws_FnExactPolygonText.f laws_szPegS.f
    rw [if_pos e1]
    simp only [Option.bind_some]
    rw [if_pos (by omega)]
theorem w3 (l : List S35) (a : Option Addr) (c : Nat) (W : World) (h : l.length ≤ maxLen) (hC : Kd.C k35 W a l.length l) (hc : l.length ≤ c) (ht : YtphpdfcblchpnaaDoorI.TabW W) :
    Calls Tryd.prog 3 #[.slice a l.length c] W fun e W' => e = .returned (.bool true) ∧ Below W.heap.size W W' := by
  obtain ⟨k, hk⟩ := law3_ev l h
  exact laws_FnExactPolygonText.calls k a c l true W hC hc hk rfl ht
end Go.Proofs.YtphpdfcblchpnaaDoor.D
namespace Go.Proofs.YtphpdfcblchpnaaDoor.fnExactPolygonText
open Go.ChangeShapes Go.WideShapes Go.ChangeAt Go.RowKit Go.Deep Go.Proofs.YtphpdfcblchpnaaDoor.Q Go.Proofs.YtphpdfcblchpnaaDoorW.PrintWords
theorem own : ownKnob Tryd.prog.godebug = none := by kernel_rfl
theorem laidOut : laidOutB Tryd.prog = true := by kernel_rfl
theorem gTab : Tryd.prog.globalNamed "internal/strconv.uint64pow10" = some 0 := by kernel_rfl
theorem gTabType : (Tryd.prog.globals[0]?).map (·.type) = some 76 := by kernel_rfl
theorem cells76 : Tryd.prog.cellsOf 76 = 20 := by kernel_rfl
theorem cells67 : Tryd.prog.cellsOf 67 = 1 := by kernel_rfl
theorem table {W : World} (h : laidMetH Tryd.prog Rows.fnExactPolygonTextRow.laid W) : YtphpdfcblchpnaaDoorI.TabW W := by
  have h0 : laidMet Tryd.prog Rows.fnExactPolygonTextRow.laid W := h
  exact Lib.tabIs_of_head (rest := []) gTab gTabType Tryd.underlying76 Tryd.underlying67 cells67 cells76 (laidMet.tail (laidMet.tail h0))
theorem pegs_of {H : Type} {enc : TypeId × Value → H} {W : World} {fuel : Nat} {a : Option Addr} {len cap : Nat} {x : DataW H × List MemPlace}
    (h : DataW.trod enc Tryd.prog W 0 (fun _ => true) true fuel 22 [.slice a len cap] = some x) : ∃ l : List S35, l.length = len ∧ len ≤ cap ∧ cap ≤ maxLen ∧ Kd.C k35 W a l.length l := by
  rcases open_slice_pairs Tryd.underlying22 Tryd.underlying35 (by kernel_rfl) (by rfl) (by rfl) (by kernel_rfl) (by kernel_rfl) h with ⟨hcs, _⟩ | ⟨ad, ln, c, m, n, V0, V1, D0, D1, P0, P1, hcs, _, hl, hm, hmm, _, hx⟩
  · simp at hcs
    obtain ⟨rfl, rfl, rfl⟩ := hcs
    exact ⟨[], rfl, Nat.le_refl _, Nat.zero_le _, rfl, by simp, fun h => absurd h (Nat.lt_irrefl _)⟩
  · simp at hcs
    obtain ⟨rfl, rfl, rfl⟩ := hcs
    have hlm : len ≤ m := by
      rw [hmm]
      simp [hl]
    have hv : ∀ i, i < len → V0 i = .int .i64 (intOf (V0 i)) ∧ V1 i = .int .i64 (intOf (V1 i)) := by
      intro i hi
      obtain ⟨_, _, h0, h1⟩ := hx i (by omega)
      obtain ⟨n0, e0, _⟩ := DataW.trod_int Tryd.underlying3 h0
      obtain ⟨n1, e1, _⟩ := DataW.trod_int Tryd.underlying3 h1
      simp at e0 e1
      rw [e0, e1]
      exact ⟨rfl, rfl⟩
    refine ⟨(List.range len).map fun i => ⟨intOf (V0 i), intOf (V1 i)⟩, by simp, hl, hm, rfl, ?_, fun _ => ⟨ad, rfl, fun j p hp => ?_⟩⟩
    · have : maxLen = 9223372036854775807 := rfl
      simp
      omega
    · obtain ⟨hj, e⟩ := List.getElem?_eq_some_iff.1 hp
      simp at hj e
      subst e
      obtain ⟨c0, c1, _⟩ := hx j (by omega)
      obtain ⟨v0, v1⟩ := hv j hj
      refine ⟨_, rfl, k35_mk W _, fun i u hi => ?_⟩
      rcases i with _ | _ | i
      · simp at hi
        subst hi
        rw [← v0]
        exact c0
      · simp at hi
        subst hi
        rw [← v1]
        exact c1
      · simp at hi
theorem contract (H : Type) (enc : TypeId × Value → H) (W : World) (base : Nat) (args : Array Value) (ds gs : List (DataW H)) (before : List MemPlace)
    (hval0 : ∀ (j : Nat) t v, Tryd.f3.params[j]? = some t → args[j]? = some v → Value.okWide Tryd.prog W .any base t v)
    (hW : DataW.Whole enc Tryd.prog Tryd.f3.params.toList Rows.fnExactPolygonTextSpec.vars false W args.toList ds gs before) (hL : laidMetH Tryd.prog Rows.fnExactPolygonTextRow.laid W) :
    Calls Tryd.prog 3 args W fun e W' => ∃ v, e = .returned v ∧ Rows.fnExactPolygonTextSpec.post enc Tryd.prog Tryd.f3 false true false false W args v W' := by
  have hval : ∀ (j : Nat) t v, Tryd.f3.params[j]? = some t → args[j]? = some v → Value.okWide Tryd.prog W .any base t v := hval0
  have hW' := hW
  obtain ⟨p, q, hA0, hV, rfl, hfz, hnd⟩ := hW
  have hA : DataW.TrodAll enc Tryd.prog W 0 (fun _ => true) true Tryd.f3.params.toList args.toList ds p := hA0
  rw [Tryd.params3] at hA hval
  obtain ⟨v0, vs0, d0, ds0, p0, q0, hargs, rfl, rfl, h0, r0⟩ := trodAll_cons hA
  obtain ⟨rfl, rfl, rfl⟩ := trodAll_nil r0
  obtain rfl : args = #[v0] := by cases args; simp_all
  obtain ⟨rfl, rfl⟩ := trodVars_none hV
  obtain ⟨a0, len0, cap0, rfl⟩ := okWide_slice Tryd.underlying22 (hval 0 22 v0 rfl rfl)
  have k0 := h0
  have lt0 : ∀ x ∈ p0, x.block < W.heap.size := by obtain ⟨m, hm⟩ := k0; exact DataW.trod_lt m _ _ _ hm
  obtain ⟨l, rfl, hc, hm, hC⟩ : ∃ l : List S35, l.length = len0 ∧ len0 ≤ cap0 ∧ cap0 ≤ maxLen ∧ Kd.C k35 W a0 l.length l := by
    obtain ⟨fuel, hf⟩ := h0
    exact pegs_of hf
  clear hA0 hval0
  refine (D.w3 l a0 cap0 W (Nat.le_trans hc hm) hC hc (table hL)).mono fun e W' ⟨he, bel⟩ => ?_
  subst he
  exact ⟨_, rfl, _, _, _, [], _, [], hW', trodAll_mk1 (shut_bool Tryd.underlying4 _), (trodAll_cons_mk (Below.trod laidOut (by kernel_rfl) (of_decide_eq_true (by kernel_rfl)) k0 bel lt0) trodAll_mk0), rfl, bel.frame _, fun h => by cases h⟩
end Go.Proofs.YtphpdfcblchpnaaDoor.fnExactPolygonText
