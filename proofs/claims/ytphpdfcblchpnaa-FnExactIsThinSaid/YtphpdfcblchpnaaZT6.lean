/- Parts of the proof: printed texts, words and own texts, cut to what is used. -/
import Derived.Lib.SliceRun
import Derived.Test.YtphpdfcblchpnaaZT5
namespace Go.Proofs.Ytphpdfcblchpnaa.Q
open Go.RowKit Go.Proofs.YtphpdfcblchpnaaW.PrintWords Go.Proofs.YtphpdfcblchpnaaW.PrintLast Go.Proofs.YtphpdfcblchpnaaW.PrintMore
attribute [local go_sem] max2_int min2_int max_two min_two max_three min_three max_four min_four   -- for this text's walks alone
set_option linter.unusedVariables false
set_option linter.unusedSimpArgs false
def impl_Peg_255.f (l0 : List (S26)) : Option ((List (S26))) := (some (([] : List (S26)) : List (S26))).bind fun y2116 => (if y2116.length + l0.length < 8796093022208 then (some (y2116 ++ l0)) else (none))
set_option maxHeartbeats 8000000 in
set_option maxRecDepth 100000 in
theorem impl_Peg_255.calls_some (ad0 : Addr) (c0 : Nat) (l0 : List (S26)) (r : List (S26)) (w : World) (hr0 : Kd.C k26 w (some ad0) l0.length l0) (hc0 : l0.length ≤ c0) (h : impl_Peg_255.f l0 = some r) :
  Calls Try.prog 255 #[.slice (some ad0) l0.length c0] w fun e w' => ∃ v0_ : Value, e = .returned (v0_) ∧ Kd.R k26 26 w' w.heap.size (fun _ => True) v0_ r ∧ Below w.heap.size w w' := by
 have HR0 := Aside0.mk hr0
 have HC0 := Aside0.mk hc0
 clear hr0 hc0
 have HB := Aside0.mk (Below.refl w.heap.size w)
 have H : ((some (([] : List (S26)) : List (S26))).bind fun y2116 => (if y2116.length + l0.length < 8796093022208 then (some (y2116 ++ l0)) else (none))) = some r := h
 clear h
 obtain ⟨y2116, hy2116⟩ : ∃ y_ : List (S26), y_ = (([] : List (S26))) := ⟨_, rfl⟩
 replace H : (if y2116.length + l0.length < 8796093022208 then (some (y2116 ++ l0)) else (none)) = some r := by first | (rw [hy2116]; with_reducible exact H) | (have H2_ := (Option.bind_some _ _).symm.trans H; rw [hy2116]; with_reducible exact H2_) | (have H2_ := (Option.bind_some _ _).symm.trans H; with_reducible exact H2_) | with_reducible exact H | (rw [hy2116]; exact H) | exact H
 have Ny2116 := Aside0.mk hy2116
 clear hy2116
 by_cases c2 : y2116.length + l0.length < 8796093022208
 ·rw [if_pos c2] at H
  have LMc2 := Aside0.mk c2
  clear c2
  obtain ⟨y2119, hy2119⟩ : ∃ y_ : List (S26), y_ = (y2116 ++ l0) := ⟨_, rfl⟩
  replace H : (some y2119) = some r := by first | (rw [hy2119]; with_reducible exact H) | (have H2_ := (Option.bind_some _ _).symm.trans H; rw [hy2119]; with_reducible exact H2_) | (have H2_ := (Option.bind_some _ _).symm.trans H; with_reducible exact H2_) | with_reducible exact H | (rw [hy2119]; exact H) | exact H
  have Ny2119 := Aside0.mk hy2119
  clear hy2119
  obtain rfl := Option.some.inj H
  have q24 : ∀ (w : World) (a : Option Addr) (n c n' c' : Nat), (binOp .eql 24 (.slice a n c) (.slice none n' c')).run Try.prog w = .ok (.bool a.isNone) w := fun w a n c n' c' => Lib.run_eql_slice_nil w _ _ a n c n' c' Try.underlying24
  go_enter Try.func255, Try.ntmps255
  go_wp2_with (first | ((with_reducible refine gate_dst (N := 5) rfl ?_); refine Kd.R_lit k26 _ 26 ?hg (N := 5) ?hd (xs := ([] : List (S26))) (inner := []) (ok := fun _ => True) (okp := fun _ => True) ?hr ?hp (fun _ hk => hk) trivial (Below.refl _ _) (Nat.le_refl _) (by simp) ?_; (case hd => rfl); (case hg => rfl); (case hr => first | (go_simp; done) | (go_simp; rfl)); (case hp => exact (Reps.none _ _)); intro v2117 w3 ho4 hb hg_ hnew_; clear hg_ hnew_; (first | rw [← Ny2116.out] at ho4 | (simp only [Int.reduceToNat] at ho4; rw [← Ny2116.out] at ho4)); have n0_ := Aside0.mk (Kd.R_lower ho4 (below_size zb)); have n1_ := Aside0.mk (below_step zb hb); clear HB; have HO2118 := n0_; have HB := n1_; clear n0_ n1_; clear hb ho4) | ((with_reducible refine gate_builtin (b := .append) (xs := #[.tmp 5, .tmp 6]) rfl ?_); at_builtin; refine Kd.R_append_rows k26 (w0 := w) w.heap.size rfl (.tmp 5) (.tmp 6) 24 26 (.agg #[(.int .i64 0), (.int .i64 0)]) 16 rfl Try.underlying24 info26 rfl (by decide) (by omega) v2117 y2116 l0 _ _ _ (fun _ => True) (fun _ => False) rfl rfl ?aO ?aR (fun _ _ h => h) (fun _ h => h.elim) ?aF ?aB ?aS ?aL ?_; (case aR => repeat (first | exact (Kd.C_below HR0.out HB.out) | (with_reducible refine Kd.C_alloc ?_ _) | (with_reducible refine Kd.C_drewN ?_ _) | (with_reducible refine Kd.C_drew ?_))); (case aB => exact zb); (case aF => exact (fun _ _ => trivial)); (case aO => exact (by (with_reducible repeat (first | apply Kd.R_alloc | apply Kd.R_drewN | apply Kd.R_drew)); exact HO2118.out)); (case aS => exact (below_size zb)); (case aL => have := LMc2.out; omega); intro v2120 w5 ho hb hg hat; rw [← Ny2119.out] at ho; have n0_ := Aside0.mk (hb); have n1_ := Aside0.mk (ho); clear HB; clear HO2118; have HB := n0_; have HO2121 := n1_; clear n0_ n1_; clear ho hb hg hat))
  go_ret
  exact ⟨_, by first | rfl | (simp [errW_none, errW_some] <;> rfl) | (simp [*, errW_none, errW_some] <;> rfl), by (with_reducible repeat (first | apply Kd.R_alloc | apply Kd.R_drewN | apply Kd.R_drew)); exact HO2121.out, zb⟩
 ·rw [if_neg c2] at H
  exact absurd H (by simp)
set_option maxRecDepth 100000 in
theorem impl_Peg_255.calls (A0 : Option Addr) (c0 : Nat) (l0 : List (S26)) (r : List (S26)) (w : World) (hr0 : Kd.C k26 w A0 l0.length l0) (hc0 : l0.length ≤ c0) (h : impl_Peg_255.f l0 = some r) :
  Calls Try.prog 255 #[.slice A0 l0.length c0] w fun e w' => ∃ v0_ : Value, e = .returned (v0_) ∧ Kd.R k26 26 w' w.heap.size (fun _ => True) v0_ r ∧ Below w.heap.size w w' := by
 cases A0 with
 | some ad => exact impl_Peg_255.calls_some ad c0 l0 r w hr0 hc0 h
 | none =>
  have hl : l0.length = 0 := by
   false_or_by_contra
   rename_i hn
   obtain ⟨_, e, _⟩ := hr0.2.2 (Nat.pos_of_ne_zero hn)
   cases e
  have hl0 : l0 = [] := List.length_eq_zero_iff.1 hl
  subst hl0
  have hr : r = [] := by
   have h2 := h
   simp [impl_Peg_255.f] at h2
   exact h2
  subst hr
  clear h hl
  have q24 : ∀ (w : World) (a : Option Addr) (n c n' c' : Nat), (binOp .eql 24 (.slice a n c) (.slice none n' c')).run Try.prog w = .ok (.bool a.isNone) w := fun w a n c n' c' => Lib.run_eql_slice_nil w _ _ a n c n' c' Try.underlying24
  go_enter Try.func255, Try.ntmps255
  go_wp2
  all_goals
   go_ret
   exact ⟨_, rfl, Kd.R_nil _ _ _ _ _, by repeat (first | exact Below.refl _ _ | apply below_alloc)⟩
open Go.Proofs.YtphpdfcblchpnaaH in
def impl_sorted.f (l0 : List (S26)) : Option (List (S26)) := if 0 < l0.length ∧ l0.length ≤ 1000000 then some (sortPg l0) else none
open Go.Proofs.YtphpdfcblchpnaaH in
theorem impl_sorted.calls (A0 : Option Addr) (c0 : Nat) (l0 : List (S26)) (r : List (S26)) (w : World) (hr0 : Kd.C k26 w A0 l0.length l0) (hc0 : l0.length ≤ c0) (h : impl_sorted.f l0 = some r) :
  Calls Try.prog 214 #[.slice A0 l0.length c0] w fun e w' => ∃ v0_ : Value, e = .returned (v0_) ∧ Kd.R k26 26 w' w.heap.size (fun _ => True) v0_ r ∧ Below w.heap.size w w' := by
 unfold impl_sorted.f at h
 by_cases hl : 0 < l0.length ∧ l0.length ≤ 1000000
 ·rw [if_pos hl] at h
  obtain rfl := Option.some.inj h
  clear h
  have hclone := impl_Peg_255.calls A0 c0 l0 l0 w hr0 hc0 (by simp [impl_Peg_255.f]; omega)
  have eg : ∀ args w, (callFunc 249 args).run Try.prog w = .ok (.enter 249 args) w := enters_of Try.func249 (by kernel_rfl) rfl
  go_enter Try.func214, Try.ntmps214
  go_wp2_with fail
  refine hclone.mono ?_
  rintro e w1 ⟨v, rfl, hR, hB⟩
  have HR := Aside0.mk hR
  have HB := Aside0.mk hB
  clear hclone hr0 hc0 hR hB
  go_wp2_with fail
  refine (sort_calls 249 #[] cfPg swo_pg eg HR.out hl.1 (by omega) (fun W _ _ x y => comparePegs_grow x.f0 x.f1 y.f0 y.f1 W)).mono ?_
  rintro e w2 ⟨rfl, ys, hp, hs, hR2, hg⟩
  have HS := Aside0.mk hs
  have HP := Aside0.mk hp
  have HR2 := Aside0.mk hR2
  have HG := Aside0.mk hg
  clear hs hp hR2 hg
  go_wp2
  go_ret
  refine ⟨_, rfl, ?_, HB.out.grown HG.out HB.out.size (fun k hk => Kd.R_base HR.out k hk)⟩
  rw [← sortPg_unique HP.out (pairwise_of_getD (fun i j h1 h2 => HS.out i j h1 h2))]
  exact HR2.out
 ·rw [if_neg hl] at h
  cases h
end Go.Proofs.Ytphpdfcblchpnaa.Q
namespace Go.Proofs.Ytphpdfcblchpnaa.Q
open Go.RowKit Go.Proofs.YtphpdfcblchpnaaW.PrintWords Go.Proofs.YtphpdfcblchpnaaW.PrintLast Go.Proofs.YtphpdfcblchpnaaW.PrintMore
attribute [local go_sem] max2_int min2_int max_two min_two max_three min_three max_four min_four   -- for this text's walks alone
set_option linter.unusedVariables false
set_option linter.unusedSimpArgs false
mutual
def impl_directions.l0 : Nat → List (S26) → Int → List (S26) → Int → Int → Int → Int → Int → Int → Option ((List (S26)))
 | 0, _, _, _, _, _, _, _, _, _ => none
 | k + 1, x0, x1, x5, x8, x9, x2221000, x2221001, x2222000, x2222001 => if x9 ≤ x1 then (impl_directions.l1 k x0 x1 x5 x8 x9 (wrap64 (-x1)) x2221000 x2221001 x2222000 x2222001) else ((impl_sorted.f x5).bind fun t2223 => (some t2223))
def impl_directions.l1 : Nat → List (S26) → Int → List (S26) → Int → Int → Int → Int → Int → Int → Int → Option ((List (S26)))
 | 0, _, _, _, _, _, _, _, _, _, _ => none
 | k + 1, x0, x1, x5, x8, x9, x10, x2221000, x2221001, x2222000, x2222001 => if x10 ≤ x1 then (if x8 = 0 then (none) else (if (Int.tmod (wrap64 ((wrap64 (x9 * x2222001)) - (wrap64 (x10 * x2221001)))) x8) = 0 then (impl_directions.j2 k x0 x1 x5 x8 x9 x10 (wrap64 ((wrap64 (x9 * x2222001)) - (wrap64 (x10 * x2221001)))) (wrap64 ((wrap64 (x10 * x2221000)) - (wrap64 (x9 * x2222000)))) ((Int.tmod (wrap64 ((wrap64 (x10 * x2221000)) - (wrap64 (x9 * x2222000)))) x8) != 0) x2221000 x2221001 x2222000 x2222001) else (impl_directions.j2 k x0 x1 x5 x8 x9 x10 (wrap64 ((wrap64 (x9 * x2222001)) - (wrap64 (x10 * x2221001)))) (wrap64 ((wrap64 (x10 * x2221000)) - (wrap64 (x9 * x2222000)))) true x2221000 x2221001 x2222000 x2222001))) else (impl_directions.l0 k x0 x1 x5 x8 (wrap64 (x9 + 1)) x2221000 x2221001 x2222000 x2222001)
def impl_directions.j2 : Nat → List (S26) → Int → List (S26) → Int → Int → Int → Int → Int → Bool → Int → Int → Int → Int → Option ((List (S26)))
 | 0, _, _, _, _, _, _, _, _, _, _, _, _, _ => none
 | k + 1, x0, x1, x5, x8, x9, x10, x11, x12, x73, x2221000, x2221001, x2222000, x2222001 => if x73 = true then (impl_directions.l1 k x0 x1 x5 x8 x9 (wrap64 (x10 + 1)) x2221000 x2221001 x2222000 x2222001) else (if x8 = 0 then (none) else ((impl_divisor.f k (wrap64 (Int.tdiv x11 x8)) (wrap64 (Int.tdiv x12 x8))).bind fun t2227 => (if t2227 = 1 then (if (wrap64 (Int.tdiv x11 x8)) > 0 then ((impl_width.f k x0 (wrap64 (Int.tdiv x11 x8)) (wrap64 (Int.tdiv x12 x8))).bind fun t2228 => (if t2228 ≤ x1 then (if x5.length < 8796093022208 then (impl_directions.l1 k x0 x1 (x5 ++ [(⟨wrap64 (Int.tdiv x11 x8), wrap64 (Int.tdiv x12 x8)⟩ : S26)]) x8 x9 (wrap64 (x10 + 1)) x2221000 x2221001 x2222000 x2222001) else (none)) else (impl_directions.l1 k x0 x1 x5 x8 x9 (wrap64 (x10 + 1)) x2221000 x2221001 x2222000 x2222001))) else (if (wrap64 (Int.tdiv x11 x8)) = 0 then (if (wrap64 (Int.tdiv x12 x8)) = 1 then ((impl_width.f k x0 (wrap64 (Int.tdiv x11 x8)) (wrap64 (Int.tdiv x12 x8))).bind fun t2232 => (if t2232 ≤ x1 then (if x5.length < 8796093022208 then (impl_directions.l1 k x0 x1 (x5 ++ [(⟨wrap64 (Int.tdiv x11 x8), wrap64 (Int.tdiv x12 x8)⟩ : S26)]) x8 x9 (wrap64 (x10 + 1)) x2221000 x2221001 x2222000 x2222001) else (none)) else (impl_directions.l1 k x0 x1 x5 x8 x9 (wrap64 (x10 + 1)) x2221000 x2221001 x2222000 x2222001))) else (impl_directions.l1 k x0 x1 x5 x8 x9 (wrap64 (x10 + 1)) x2221000 x2221001 x2222000 x2222001)) else (impl_directions.l1 k x0 x1 x5 x8 x9 (wrap64 (x10 + 1)) x2221000 x2221001 x2222000 x2222001))) else (impl_directions.l1 k x0 x1 x5 x8 x9 (wrap64 (x10 + 1)) x2221000 x2221001 x2222000 x2222001))))
end
def impl_directions.f (k : Nat) (l0 : List (S26)) (a1 : Int) : Option ((List (S26))) := if 1 < (l0.length : Int) then (if 0 < (l0.length : Int) then ((impl_Peg_less.f ((rd_T26 l0 1).f0) ((rd_T26 l0 1).f1) ((rd_T26 l0 0).f0) ((rd_T26 l0 0).f1)).bind fun bt2214 => (if 2 < (l0.length : Int) then ((impl_Peg_less.f ((rd_T26 l0 2).f0) ((rd_T26 l0 2).f1) ((rd_T26 l0 0).f0) ((rd_T26 l0 0).f1)).bind fun bt2218 => ((impl_cross.f bt2214.1 bt2214.2 bt2218.1 bt2218.2).bind fun t2222 => (impl_directions.l0 k l0 a1 (([] : List (S26))) t2222 (wrap64 (-a1)) bt2214.1 bt2214.2 bt2218.1 bt2218.2))) else (none))) else (none)) else (none)
def impl_directions.T2 : Bool × List (List Nat × List Nat) := (true, [([], []), ([0], [0]), ([1], [1]), ([], []), ([3], [3]), ([4], [4]), ([2, 5], [2, 5]), ([], []), ([7], [7]), ([8], [8]), ([], []), ([10], [10]), ([11], [11]), ([9, 12, 6], [9, 12]), ([], []), ([], []), ([14, 6, 13, 0, 1, 2, 3, 4, 5, 6, 14, 15], [6, 14]), ([15, 13, 16, 0, 1, 2, 3, 4, 5, 6, 7, 8, 9, 10, 11, 12, 13, 14, 15, 16], [13, 15])])
def impl_directions.B2 : List Nat := [0, 1, 3, 0, 8, 24, 63, 0, 128, 384, 0, 1024, 3072, 8191, 0, 0, 65535, 131071]
theorem impl_directions.tab2 : rtab .any (opsOf Try.f260 2) = impl_directions.T2 := by kernel_rfl
theorem impl_directions.bits2 : waitsOk impl_directions.T2.2 impl_directions.B2 = true := by kernel_rfl
def impl_directions.T10 : Bool × List (List Nat × List Nat) := (true, [([], []), ([], []), ([1], [1]), ([0, 2], [0, 2]), ([], []), ([], []), ([5], [5]), ([4, 6], [4, 6]), ([3, 7], [3, 7]), ([], []), ([], []), ([10], [10]), ([9, 11], [9, 11]), ([], []), ([], []), ([14], [14]), ([13, 15], [13, 15]), ([12, 16], [12, 16]), ([8, 0, 1, 2, 3, 4, 5, 6, 7, 8], [8]), ([17, 18, 0, 1, 2, 3, 4, 5, 6, 7, 8, 9, 10, 11, 12, 13, 14, 15, 16, 17, 18], [17])])
def impl_directions.B10 : List Nat := [0, 0, 2, 7, 0, 0, 32, 112, 255, 0, 0, 1024, 3584, 0, 0, 16384, 57344, 130560, 511, 524287]
theorem impl_directions.tab10 : rtab .any (opsOf Try.f260 10) = impl_directions.T10 := by kernel_rfl
theorem impl_directions.bits10 : waitsOk impl_directions.T10.2 impl_directions.B10 = true := by kernel_rfl
def impl_directions.T12 : Bool × List (List Nat × List Nat) := (true, [([], []), ([], []), ([0, 1], [0, 1]), ([], []), ([], []), ([3, 4], [3, 4]), ([2, 5], [2, 5]), ([], []), ([7, 6, 0, 1, 2, 3, 4, 5, 6, 7], [6, 7])])
def impl_directions.B12 : List Nat := [0, 0, 3, 0, 0, 24, 63, 0, 255]
theorem impl_directions.tab12 : rtab .any (opsOf Try.f260 12) = impl_directions.T12 := by kernel_rfl
theorem impl_directions.bits12 : waitsOk impl_directions.T12.2 impl_directions.B12 = true := by kernel_rfl
set_option maxHeartbeats 8000000 in
set_option maxRecDepth 100000 in
theorem impl_directions.calls (k : Nat) (A0 : Option Addr) (c0 : Nat) (l0 : List (S26)) (a1 : Int) (r : List (S26)) (w : World) (hr0 : Kd.C k26 w A0 l0.length l0) (hc0 : l0.length ≤ c0) (h : impl_directions.f k l0 a1 = some r) :
  Calls Try.prog 260 #[.slice A0 l0.length c0, .int .i64 a1] w fun e w' => ∃ v0_ : Value, e = .returned (v0_) ∧ Kd.R k26 26 w' w.heap.size (fun _ => True) v0_ r ∧ Below w.heap.size w w' := by
 have hu26 := Try.underlying26
 have HR0 := Aside0.mk hr0
 have HC0 := Aside0.mk hc0
 clear hr0 hc0
 have HB := Aside0.mk (Below.refl w.heap.size w)
 have H : (if 1 < (l0.length : Int) then (if 0 < (l0.length : Int) then ((impl_Peg_less.f ((rd_T26 l0 1).f0) ((rd_T26 l0 1).f1) ((rd_T26 l0 0).f0) ((rd_T26 l0 0).f1)).bind fun bt2214 => (if 2 < (l0.length : Int) then ((impl_Peg_less.f ((rd_T26 l0 2).f0) ((rd_T26 l0 2).f1) ((rd_T26 l0 0).f0) ((rd_T26 l0 0).f1)).bind fun bt2218 => ((impl_cross.f bt2214.1 bt2214.2 bt2218.1 bt2218.2).bind fun t2222 => (impl_directions.l0 k l0 a1 (([] : List (S26))) t2222 (wrap64 (-a1)) bt2214.1 bt2214.2 bt2218.1 bt2218.2))) else (none))) else (none)) else (none)) = some r := h
 clear h
 obtain ⟨y2209, hy2209⟩ : ∃ y_ : List (S26), y_ = (([] : List (S26))) := ⟨_, rfl⟩
 replace H : (if 1 < (l0.length : Int) then (if 0 < (l0.length : Int) then ((impl_Peg_less.f ((rd_T26 l0 1).f0) ((rd_T26 l0 1).f1) ((rd_T26 l0 0).f0) ((rd_T26 l0 0).f1)).bind fun bt2214 => (if 2 < (l0.length : Int) then ((impl_Peg_less.f ((rd_T26 l0 2).f0) ((rd_T26 l0 2).f1) ((rd_T26 l0 0).f0) ((rd_T26 l0 0).f1)).bind fun bt2218 => ((impl_cross.f bt2214.1 bt2214.2 bt2218.1 bt2218.2).bind fun t2222 => (impl_directions.l0 k l0 a1 y2209 t2222 (wrap64 (-a1)) bt2214.1 bt2214.2 bt2218.1 bt2218.2))) else (none))) else (none)) else (none)) = some r := by first | (rw [hy2209]; with_reducible exact H) | (have H2_ := (Option.bind_some _ _).symm.trans H; rw [hy2209]; with_reducible exact H2_) | (have H2_ := (Option.bind_some _ _).symm.trans H; with_reducible exact H2_) | with_reducible exact H | (rw [hy2209]; exact H) | exact H
 have Ny2209 := Aside0.mk hy2209
 clear hy2209
 by_cases c3 : 1 < (l0.length : Int)
 ·rw [if_pos c3] at H
  have c3b0 : decide (1 < (l0.length : Int)) = true := decide_eq_true c3
  have c3b1 : decide (1 < l0.length) = true := decide_eq_true (by omega)
  clear c3
  by_cases c4 : 0 < (l0.length : Int)
  ·rw [if_pos c4] at H
   have c4b0 : decide (0 < (l0.length : Int)) = true := decide_eq_true c4
   have c4b1 : decide (0 < l0.length) = true := decide_eq_true (by omega)
   clear c4
   replace H := Option.bind_eq_some_iff.mp H
   obtain ⟨⟨t2214, t2215⟩, A50, H⟩ := H
   replace H : (if 2 < (l0.length : Int) then ((impl_Peg_less.f ((rd_T26 l0 2).f0) ((rd_T26 l0 2).f1) ((rd_T26 l0 0).f0) ((rd_T26 l0 0).f1)).bind fun bt2218 => ((impl_cross.f t2214 t2215 bt2218.1 bt2218.2).bind fun t2222 => (impl_directions.l0 k l0 a1 y2209 t2222 (wrap64 (-a1)) t2214 t2215 bt2218.1 bt2218.2))) else (none)) = some r := H
   have A5 := Aside0.mk A50
   clear A50
   by_cases c6 : 2 < (l0.length : Int)
   ·rw [if_pos c6] at H
    have c6b0 : decide (2 < (l0.length : Int)) = true := decide_eq_true c6
    have c6b1 : decide (2 < l0.length) = true := decide_eq_true (by omega)
    clear c6
    replace H := Option.bind_eq_some_iff.mp H
    obtain ⟨⟨t2218, t2219⟩, A70, H⟩ := H
    replace H : ((impl_cross.f t2214 t2215 t2218 t2219).bind fun t2222 => (impl_directions.l0 k l0 a1 y2209 t2222 (wrap64 (-a1)) t2214 t2215 t2218 t2219)) = some r := H
    have A7 := Aside0.mk A70
    clear A70
    replace H := Option.bind_eq_some_iff.mp H
    obtain ⟨t2222, A80, H⟩ := H
    replace H : (impl_directions.l0 k l0 a1 y2209 t2222 (wrap64 (-a1)) t2214 t2215 t2218 t2219) = some r := H
    have A8 := Aside0.mk A80
    clear A80
    have H' := Aside0.mk H
    clear H
    go_enter Try.func260, Try.ntmps260
    try go_wp2_with (first | ((with_reducible refine gate_dst (N := 14) rfl ?_); refine Kd.R_lit k26 _ 26 ?hg (N := 14) ?hd (xs := ([] : List (S26))) (inner := []) (ok := fun _ => True) (okp := fun _ => True) ?hr ?hp (fun _ hk => hk) trivial (Below.refl _ _) (Nat.le_refl _) (by simp) ?_; (case hd => rfl); (case hg => rfl); (case hr => first | (go_simp; done) | (go_simp; rfl)); (case hp => exact (Reps.none _ _)); intro v2210 w9 ho10 hb hg_ hnew_; clear hg_ hnew_; (first | rw [← Ny2209.out] at ho10 | (simp only [Int.reduceToNat] at ho10; rw [← Ny2209.out] at ho10)); have n0_ := Aside0.mk (Kd.R_lower ho10 (below_size zb)); have n1_ := Aside0.mk (below_step zb hb); clear HB; have HO2211 := n0_; have HB := n1_; clear n0_ n1_; clear hb ho10))
    have n0_ := Aside0.mk (Kd.R_drew HO2211.out)
    have n1_ := Aside0.mk (below_drew1 HB.out)
    clear HO2211
    clear HB
    have HO2211 := n0_
    have HB := n1_
    clear n0_ n1_
    have p2212 : 0 ≤ (1 : Int) := (by omega)
    have q2212 : 1 < (l0.length : Int) := of_decide_eq_true (by first | (with_reducible assumption) | assumption)
    obtain ⟨ad2212, e2212, hx2212_0, hx2212_1⟩ := at_T26 HR0.out 1 p2212 q2212
    have hw2212_1 := hx2212_1
    (try rw [show ((1 : Int)).toNat = 1 from rfl] at hw2212_1)
    (try rw [show 1 * 2 = 2 from rfl] at hw2212_1)
    (try simp only [Nat.reduceMul, Nat.reduceEqDiff, Go.Addr.add, ↓reduceIte] at hw2212_1)
    have hw2212_0 := hx2212_0
    (try rw [show ((1 : Int)).toNat = 1 from rfl] at hw2212_0)
    (try rw [show 1 * 2 = 2 from rfl] at hw2212_0)
    (try simp only [Nat.reduceMul, Nat.reduceEqDiff, Go.Addr.add, ↓reduceIte] at hw2212_0)
    cases e2212
    (try simp only [show (1 : Int).toNat = 1 from rfl, Nat.reduceMul, Nat.reduceEqDiff, Go.Addr.add, ↓reduceIte] at hx2212_0)
    (try simp only [show (1 : Int).toNat = 1 from rfl, Nat.reduceMul, Nat.reduceEqDiff, Go.Addr.add, ↓reduceIte] at hx2212_1)
    have qi2212 : (1 < l0.length) = True := eq_true (by omega)
    (try rw [show ((1 : Int)).toNat = 1 from rfl] at hx2212_0)
    (try rw [show 1 * 2 = 2 from rfl] at hx2212_0)
    (try rw [show ((1 : Int)).toNat = 1 from rfl] at hx2212_1)
    (try rw [show 1 * 2 = 2 from rfl] at hx2212_1)
    replace hx2212_0 := zc HB hx2212_0
    replace hx2212_1 := zc HB hx2212_1
    replace p2212 := eq_true p2212
    replace q2212 := eq_true q2212
    have p2213 : 0 ≤ (0 : Int) := (by omega)
    have q2213 : 0 < (l0.length : Int) := of_decide_eq_true (by first | (with_reducible assumption) | assumption)
    obtain ⟨ad2213, e2213, hx2213_0, hx2213_1⟩ := at_T26 HR0.out 0 p2213 q2213
    have hw2213_1 := hx2213_1
    (try rw [show ((0 : Int)).toNat = 0 from rfl] at hw2213_1)
    (try rw [show 0 * 2 = 0 from rfl] at hw2213_1)
    (try rw [Addr.add_zero'] at hw2213_1)
    have hw2213_0 := hx2213_0
    (try rw [show ((0 : Int)).toNat = 0 from rfl] at hw2213_0)
    (try rw [show 0 * 2 = 0 from rfl] at hw2213_0)
    (try rw [Addr.add_zero'] at hw2213_0)
    obtain rfl : ad2212 = ad2213 := (by injection e2213)
    have qi2213 : (0 < l0.length) = True := eq_true (by omega)
    (try rw [show ((0 : Int)).toNat = 0 from rfl] at hx2213_0)
    (try rw [show 0 * 2 = 0 from rfl] at hx2213_0)
    (try rw [Addr.add_zero'] at hx2213_0)
    (try rw [show ((0 : Int)).toNat = 0 from rfl] at hx2213_1)
    (try rw [show 0 * 2 = 0 from rfl] at hx2213_1)
    (try rw [Addr.add_zero'] at hx2213_1)
    replace hx2213_0 := zc HB hx2213_0
    replace hx2213_1 := zc HB hx2213_1
    replace p2213 := eq_true p2213
    replace q2213 := eq_true q2213
    have p2216 : 0 ≤ (2 : Int) := (by omega)
    have q2216 : 2 < (l0.length : Int) := of_decide_eq_true (by first | (with_reducible assumption) | assumption)
    obtain ⟨ad2216, e2216, hx2216_0, hx2216_1⟩ := at_T26 HR0.out 2 p2216 q2216
    have hw2216_1 := hx2216_1
    (try rw [show ((2 : Int)).toNat = 2 from rfl] at hw2216_1)
    (try rw [show 2 * 2 = 4 from rfl] at hw2216_1)
    (try simp only [Nat.reduceMul, Nat.reduceEqDiff, Go.Addr.add, ↓reduceIte] at hw2216_1)
    have hw2216_0 := hx2216_0
    (try rw [show ((2 : Int)).toNat = 2 from rfl] at hw2216_0)
    (try rw [show 2 * 2 = 4 from rfl] at hw2216_0)
    (try simp only [Nat.reduceMul, Nat.reduceEqDiff, Go.Addr.add, ↓reduceIte] at hw2216_0)
    obtain rfl : ad2212 = ad2216 := (by injection e2216)
    (try simp only [show (2 : Int).toNat = 2 from rfl, Nat.reduceMul, Nat.reduceEqDiff, Go.Addr.add, ↓reduceIte] at hx2216_0)
    (try simp only [show (2 : Int).toNat = 2 from rfl, Nat.reduceMul, Nat.reduceEqDiff, Go.Addr.add, ↓reduceIte] at hx2216_1)
    have qi2216 : (2 < l0.length) = True := eq_true (by omega)
    (try rw [show ((2 : Int)).toNat = 2 from rfl] at hx2216_0)
    (try rw [show 2 * 2 = 4 from rfl] at hx2216_0)
    (try rw [show ((2 : Int)).toNat = 2 from rfl] at hx2216_1)
    (try rw [show 2 * 2 = 4 from rfl] at hx2216_1)
    replace hx2216_0 := zc HB hx2216_0
    replace hx2216_1 := zc HB hx2216_1
    replace p2216 := eq_true p2216
    replace q2216 := eq_true q2216
    have p2217 : 0 ≤ (0 : Int) := (by omega)
    have q2217 : 0 < (l0.length : Int) := of_decide_eq_true (by first | (with_reducible assumption) | assumption)
    obtain ⟨ad2217, e2217, hx2217_0, hx2217_1⟩ := at_T26 HR0.out 0 p2217 q2217
    have hw2217_1 := hx2217_1
    (try rw [show ((0 : Int)).toNat = 0 from rfl] at hw2217_1)
    (try rw [show 0 * 2 = 0 from rfl] at hw2217_1)
    (try rw [Addr.add_zero'] at hw2217_1)
    have hw2217_0 := hx2217_0
    (try rw [show ((0 : Int)).toNat = 0 from rfl] at hw2217_0)
    (try rw [show 0 * 2 = 0 from rfl] at hw2217_0)
    (try rw [Addr.add_zero'] at hw2217_0)
    obtain rfl : ad2212 = ad2217 := (by injection e2217)
    have qi2217 : (0 < l0.length) = True := eq_true (by omega)
    (try rw [show ((0 : Int)).toNat = 0 from rfl] at hx2217_0)
    (try rw [show 0 * 2 = 0 from rfl] at hx2217_0)
    (try rw [Addr.add_zero'] at hx2217_0)
    (try rw [show ((0 : Int)).toNat = 0 from rfl] at hx2217_1)
    (try rw [show 0 * 2 = 0 from rfl] at hx2217_1)
    (try rw [Addr.add_zero'] at hx2217_1)
    replace hx2217_0 := zc HB hx2217_0
    replace hx2217_1 := zc HB hx2217_1
    replace p2217 := eq_true p2217
    replace q2217 := eq_true q2217
    refine start_ (n := 18) (S := fun w' => w'.cell? ⟨ad2212.block, ad2212.off + 2, none⟩ = some (.int .i64 ((rd_T26 l0 1).f0)) ∧ w'.cell? ⟨ad2212.block, ad2212.off + 2 + 1, none⟩ = some (.int .i64 ((rd_T26 l0 1).f1)) ∧ w'.cell? ad2212 = some (.int .i64 ((rd_T26 l0 0).f0)) ∧ w'.cell? ⟨ad2212.block, ad2212.off + 1, none⟩ = some (.int .i64 ((rd_T26 l0 0).f1)) ∧ w'.cell? ⟨ad2212.block, ad2212.off + 4, none⟩ = some (.int .i64 ((rd_T26 l0 2).f0)) ∧ w'.cell? ⟨ad2212.block, ad2212.off + 4 + 1, none⟩ = some (.int .i64 ((rd_T26 l0 2).f1)) ∧ w'.cell? ad2212 = some (.int .i64 ((rd_T26 l0 0).f0)) ∧ w'.cell? ⟨ad2212.block, ad2212.off + 1, none⟩ = some (.int .i64 ((rd_T26 l0 0).f1))) (ds := []) (zl 18 0) (by kernel_rfl) rfl rfl ⟨(zc HB hw2212_0), (zc HB hw2212_1), (zc HB hw2213_0), (zc HB hw2213_1), (zc HB hw2216_0), (zc HB hw2216_1), (zc HB hw2217_0), (zc HB hw2217_1)⟩ (fun hHeld => ?_); refine with_tabW impl_directions.tab2 impl_directions.bits2 (fun HT_ HW_ => ?_)
    generalize w9.drew = w11 at HO2211 HB hx2212_0 hx2212_1 hx2213_0 hx2213_1 hx2216_0 hx2216_1 hx2217_0 hx2217_1 hHeld ⊢
    refine zp 0 15 18 1 HT_ ?_
    refine zp 1 16 18 3 HT_ ?_
    refine zp 3 18 18 11 HT_ ?_
    refine zp 4 19 18 27 HT_ ?_
    refine zp 7 22 18 155 HT_ ?_
    refine zp 8 23 18 411 HT_ ?_
    refine zp 10 25 18 1435 HT_ ?_
    refine zp 11 26 18 3483 HT_ ?_
    refine take_ (i := 2) (N := some 17) (v := ?_) (a' := ?_) (zl 18 3487) rfl rfl (take_ofW HT_.out HW_.out (by kernel_rfl)) (fun _ _ _ h => h) (Or.inl ⟨by rfl, ?_⟩) hHeld ?_ ?_
    rotate_left
    ·rintro w' ⟨s0, s1, s2, s3, s4, s5, s6, s7⟩
     go_simp
     with_reducible rfl
    rotate_left
    ·exact zs
    refine take_ (i := 5) (N := some 20) (v := ?_) (a' := ?_) (zl 18 3519) rfl rfl (take_ofW HT_.out HW_.out (by kernel_rfl)) (fun _ _ _ h => h) (Or.inl ⟨by rfl, ?_⟩) hHeld ?_ ?_
    rotate_left
    ·rintro w' ⟨s0, s1, s2, s3, s4, s5, s6, s7⟩
     go_simp
     with_reducible rfl
    rotate_left
    ·exact zs
    refine take_ (i := 9) (N := some 24) (v := ?_) (a' := ?_) (zl 18 4031) rfl rfl (take_ofW HT_.out HW_.out (by kernel_rfl)) (fun _ _ _ h => h) (Or.inl ⟨by rfl, ?_⟩) hHeld ?_ ?_
    rotate_left
    ·rintro w' ⟨s0, s1, s2, s3, s4, s5, s6, s7⟩
     go_simp
     with_reducible rfl
    rotate_left
    ·exact zs
    refine take_ (i := 12) (N := some 27) (v := ?_) (a' := ?_) (zl 18 8127) rfl rfl (take_ofW HT_.out HW_.out (by kernel_rfl)) (fun _ _ _ h => h) (Or.inl ⟨by rfl, ?_⟩) hHeld ?_ ?_
    rotate_left
    ·rintro w' ⟨s0, s1, s2, s3, s4, s5, s6, s7⟩
     go_simp
     with_reducible rfl
    rotate_left
    ·exact zs
    refine join_ (σ := Nat × Nat) 2 (zl 18 65535) (fun s_ => [(21, .agg #[.int .i64 t2214, .int .i64 t2215]), (28, .agg #[.int .i64 t2218, .int .i64 t2219]), (6, .pointer (some ⟨s_.1, 0, none⟩)), (7, .pointer (some ⟨s_.2, 0, none⟩))]) (fun s_ w' => (w'.cell? ⟨ad2212.block, ad2212.off + 2, none⟩ = some (.int .i64 ((rd_T26 l0 1).f0)) ∧ w'.cell? ⟨ad2212.block, ad2212.off + 2 + 1, none⟩ = some (.int .i64 ((rd_T26 l0 1).f1)) ∧ w'.cell? ad2212 = some (.int .i64 ((rd_T26 l0 0).f0)) ∧ w'.cell? ⟨ad2212.block, ad2212.off + 1, none⟩ = some (.int .i64 ((rd_T26 l0 0).f1)) ∧ w'.cell? ⟨ad2212.block, ad2212.off + 4, none⟩ = some (.int .i64 ((rd_T26 l0 2).f0)) ∧ w'.cell? ⟨ad2212.block, ad2212.off + 4 + 1, none⟩ = some (.int .i64 ((rd_T26 l0 2).f1)) ∧ w'.cell? ad2212 = some (.int .i64 ((rd_T26 l0 0).f0)) ∧ w'.cell? ⟨ad2212.block, ad2212.off + 1, none⟩ = some (.int .i64 ((rd_T26 l0 0).f1))) ∧ (Kd.R k26 26 w' w.heap.size (fun k_ => k_ ≠ s_.1 ∧ k_ ≠ s_.2) v2210 y2209) ∧ (w'.heap[s_.1]? = some (.cells #[.int .i64 0, .int .i64 0] 26 (0, 0))) ∧ (w'.heap[s_.2]? = some (.cells #[.int .i64 0, .int .i64 0] 26 (0, 0))) ∧ (w.heap.size ≤ s_.1) ∧ (w.heap.size ≤ s_.1) ∧ (s_.2 ≠ s_.1) ∧ (s_.1 ≠ s_.2) ∧ (w.heap.size ≤ s_.2) ∧ (w.heap.size ≤ s_.2) ∧ (Below w.heap.size w w')) ?_ ?_
    rotate_left
    ·intro hJ6_13_14_15
     refine join_ (σ := Nat) 3 (zl 18 32767) (fun s_ => [(21, .agg #[.int .i64 t2214, .int .i64 t2215]), (28, .agg #[.int .i64 t2218, .int .i64 t2219]), (6, .pointer (some ⟨s_, 0, none⟩))]) (fun s_ w' => (w'.cell? ⟨ad2212.block, ad2212.off + 2, none⟩ = some (.int .i64 ((rd_T26 l0 1).f0)) ∧ w'.cell? ⟨ad2212.block, ad2212.off + 2 + 1, none⟩ = some (.int .i64 ((rd_T26 l0 1).f1)) ∧ w'.cell? ad2212 = some (.int .i64 ((rd_T26 l0 0).f0)) ∧ w'.cell? ⟨ad2212.block, ad2212.off + 1, none⟩ = some (.int .i64 ((rd_T26 l0 0).f1)) ∧ w'.cell? ⟨ad2212.block, ad2212.off + 4, none⟩ = some (.int .i64 ((rd_T26 l0 2).f0)) ∧ w'.cell? ⟨ad2212.block, ad2212.off + 4 + 1, none⟩ = some (.int .i64 ((rd_T26 l0 2).f1)) ∧ w'.cell? ad2212 = some (.int .i64 ((rd_T26 l0 0).f0)) ∧ w'.cell? ⟨ad2212.block, ad2212.off + 1, none⟩ = some (.int .i64 ((rd_T26 l0 0).f1))) ∧ (Kd.R k26 26 w' w.heap.size (fun k_ => k_ ≠ s_) v2210 y2209) ∧ (w'.heap[s_]? = some (.cells #[.int .i64 0, .int .i64 0] 26 (0, 0))) ∧ (w.heap.size ≤ s_) ∧ (w.heap.size ≤ s_) ∧ (Below w.heap.size w w')) ?_ ?_
     rotate_left
     ·intro hJ6_13_14
      refine join_ (σ := Nat) 3 (zl 18 49151) (fun s_ => [(21, .agg #[.int .i64 t2214, .int .i64 t2215]), (28, .agg #[.int .i64 t2218, .int .i64 t2219]), (7, .pointer (some ⟨s_, 0, none⟩))]) (fun s_ w' => (w'.cell? ⟨ad2212.block, ad2212.off + 2, none⟩ = some (.int .i64 ((rd_T26 l0 1).f0)) ∧ w'.cell? ⟨ad2212.block, ad2212.off + 2 + 1, none⟩ = some (.int .i64 ((rd_T26 l0 1).f1)) ∧ w'.cell? ad2212 = some (.int .i64 ((rd_T26 l0 0).f0)) ∧ w'.cell? ⟨ad2212.block, ad2212.off + 1, none⟩ = some (.int .i64 ((rd_T26 l0 0).f1)) ∧ w'.cell? ⟨ad2212.block, ad2212.off + 4, none⟩ = some (.int .i64 ((rd_T26 l0 2).f0)) ∧ w'.cell? ⟨ad2212.block, ad2212.off + 4 + 1, none⟩ = some (.int .i64 ((rd_T26 l0 2).f1)) ∧ w'.cell? ad2212 = some (.int .i64 ((rd_T26 l0 0).f0)) ∧ w'.cell? ⟨ad2212.block, ad2212.off + 1, none⟩ = some (.int .i64 ((rd_T26 l0 0).f1))) ∧ (Kd.R k26 26 w' w.heap.size (fun k_ => k_ ≠ s_) v2210 y2209) ∧ (w'.heap[s_]? = some (.cells #[.int .i64 0, .int .i64 0] 26 (0, 0))) ∧ (w.heap.size ≤ s_) ∧ (w.heap.size ≤ s_) ∧ (Below w.heap.size w w')) ?_ ?_
      rotate_left
      ·intro hJ6_13_15
       refine join_ (σ := Nat × Nat) 3 (zl 18 57343) (fun s_ => [(21, .agg #[.int .i64 t2214, .int .i64 t2215]), (6, .pointer (some ⟨s_.1, 0, none⟩)), (7, .pointer (some ⟨s_.2, 0, none⟩))]) (fun s_ w' => (w'.cell? ⟨ad2212.block, ad2212.off + 2, none⟩ = some (.int .i64 ((rd_T26 l0 1).f0)) ∧ w'.cell? ⟨ad2212.block, ad2212.off + 2 + 1, none⟩ = some (.int .i64 ((rd_T26 l0 1).f1)) ∧ w'.cell? ad2212 = some (.int .i64 ((rd_T26 l0 0).f0)) ∧ w'.cell? ⟨ad2212.block, ad2212.off + 1, none⟩ = some (.int .i64 ((rd_T26 l0 0).f1)) ∧ w'.cell? ⟨ad2212.block, ad2212.off + 4, none⟩ = some (.int .i64 ((rd_T26 l0 2).f0)) ∧ w'.cell? ⟨ad2212.block, ad2212.off + 4 + 1, none⟩ = some (.int .i64 ((rd_T26 l0 2).f1)) ∧ w'.cell? ad2212 = some (.int .i64 ((rd_T26 l0 0).f0)) ∧ w'.cell? ⟨ad2212.block, ad2212.off + 1, none⟩ = some (.int .i64 ((rd_T26 l0 0).f1))) ∧ (Kd.R k26 26 w' w.heap.size (fun k_ => k_ ≠ s_.1 ∧ k_ ≠ s_.2) v2210 y2209) ∧ (w'.heap[s_.1]? = some (.cells #[.int .i64 0, .int .i64 0] 26 (0, 0))) ∧ (w'.heap[s_.2]? = some (.cells #[.int .i64 0, .int .i64 0] 26 (0, 0))) ∧ (w.heap.size ≤ s_.1) ∧ (w.heap.size ≤ s_.1) ∧ (s_.2 ≠ s_.1) ∧ (s_.1 ≠ s_.2) ∧ (w.heap.size ≤ s_.2) ∧ (w.heap.size ≤ s_.2) ∧ (Below w.heap.size w w')) ?_ ?_
       rotate_left
       ·intro hJ6_14_15
        refine join_ (σ := Unit) 4 (zl 18 16383) (fun s_ => [(21, .agg #[.int .i64 t2214, .int .i64 t2215]), (28, .agg #[.int .i64 t2218, .int .i64 t2219])]) (fun s_ w' => (w'.cell? ⟨ad2212.block, ad2212.off + 2, none⟩ = some (.int .i64 ((rd_T26 l0 1).f0)) ∧ w'.cell? ⟨ad2212.block, ad2212.off + 2 + 1, none⟩ = some (.int .i64 ((rd_T26 l0 1).f1)) ∧ w'.cell? ad2212 = some (.int .i64 ((rd_T26 l0 0).f0)) ∧ w'.cell? ⟨ad2212.block, ad2212.off + 1, none⟩ = some (.int .i64 ((rd_T26 l0 0).f1)) ∧ w'.cell? ⟨ad2212.block, ad2212.off + 4, none⟩ = some (.int .i64 ((rd_T26 l0 2).f0)) ∧ w'.cell? ⟨ad2212.block, ad2212.off + 4 + 1, none⟩ = some (.int .i64 ((rd_T26 l0 2).f1)) ∧ w'.cell? ad2212 = some (.int .i64 ((rd_T26 l0 0).f0)) ∧ w'.cell? ⟨ad2212.block, ad2212.off + 1, none⟩ = some (.int .i64 ((rd_T26 l0 0).f1))) ∧ (Kd.R k26 26 w' w.heap.size (fun _ => True) v2210 y2209) ∧ (Below w.heap.size w w')) ?_ ?_
        rotate_left
        ·intro hJ6_13
         refine join_ (σ := Nat) 4 (zl 18 24575) (fun s_ => [(21, .agg #[.int .i64 t2214, .int .i64 t2215]), (6, .pointer (some ⟨s_, 0, none⟩))]) (fun s_ w' => (w'.cell? ⟨ad2212.block, ad2212.off + 2, none⟩ = some (.int .i64 ((rd_T26 l0 1).f0)) ∧ w'.cell? ⟨ad2212.block, ad2212.off + 2 + 1, none⟩ = some (.int .i64 ((rd_T26 l0 1).f1)) ∧ w'.cell? ad2212 = some (.int .i64 ((rd_T26 l0 0).f0)) ∧ w'.cell? ⟨ad2212.block, ad2212.off + 1, none⟩ = some (.int .i64 ((rd_T26 l0 0).f1)) ∧ w'.cell? ⟨ad2212.block, ad2212.off + 4, none⟩ = some (.int .i64 ((rd_T26 l0 2).f0)) ∧ w'.cell? ⟨ad2212.block, ad2212.off + 4 + 1, none⟩ = some (.int .i64 ((rd_T26 l0 2).f1)) ∧ w'.cell? ad2212 = some (.int .i64 ((rd_T26 l0 0).f0)) ∧ w'.cell? ⟨ad2212.block, ad2212.off + 1, none⟩ = some (.int .i64 ((rd_T26 l0 0).f1))) ∧ (Kd.R k26 26 w' w.heap.size (fun k_ => k_ ≠ s_) v2210 y2209) ∧ (w'.heap[s_]? = some (.cells #[.int .i64 0, .int .i64 0] 26 (0, 0))) ∧ (w.heap.size ≤ s_) ∧ (w.heap.size ≤ s_) ∧ (Below w.heap.size w w')) ?_ ?_
         rotate_left
         ·intro hJ6_14
          refine join_ (σ := Nat) 4 (zl 18 40959) (fun s_ => [(21, .agg #[.int .i64 t2214, .int .i64 t2215]), (7, .pointer (some ⟨s_, 0, none⟩))]) (fun s_ w' => (w'.cell? ⟨ad2212.block, ad2212.off + 2, none⟩ = some (.int .i64 ((rd_T26 l0 1).f0)) ∧ w'.cell? ⟨ad2212.block, ad2212.off + 2 + 1, none⟩ = some (.int .i64 ((rd_T26 l0 1).f1)) ∧ w'.cell? ad2212 = some (.int .i64 ((rd_T26 l0 0).f0)) ∧ w'.cell? ⟨ad2212.block, ad2212.off + 1, none⟩ = some (.int .i64 ((rd_T26 l0 0).f1)) ∧ w'.cell? ⟨ad2212.block, ad2212.off + 4, none⟩ = some (.int .i64 ((rd_T26 l0 2).f0)) ∧ w'.cell? ⟨ad2212.block, ad2212.off + 4 + 1, none⟩ = some (.int .i64 ((rd_T26 l0 2).f1)) ∧ w'.cell? ad2212 = some (.int .i64 ((rd_T26 l0 0).f0)) ∧ w'.cell? ⟨ad2212.block, ad2212.off + 1, none⟩ = some (.int .i64 ((rd_T26 l0 0).f1))) ∧ (Kd.R k26 26 w' w.heap.size (fun k_ => k_ ≠ s_) v2210 y2209) ∧ (w'.heap[s_]? = some (.cells #[.int .i64 0, .int .i64 0] 26 (0, 0))) ∧ (w.heap.size ≤ s_) ∧ (w.heap.size ≤ s_) ∧ (Below w.heap.size w w')) ?_ ?_
          rotate_left
          ·intro hJ6_15
           refine join_ (σ := Nat × Nat) 4 (zl 18 57279) (fun s_ => [(6, .pointer (some ⟨s_.1, 0, none⟩)), (7, .pointer (some ⟨s_.2, 0, none⟩))]) (fun s_ w' => (w'.cell? ⟨ad2212.block, ad2212.off + 2, none⟩ = some (.int .i64 ((rd_T26 l0 1).f0)) ∧ w'.cell? ⟨ad2212.block, ad2212.off + 2 + 1, none⟩ = some (.int .i64 ((rd_T26 l0 1).f1)) ∧ w'.cell? ad2212 = some (.int .i64 ((rd_T26 l0 0).f0)) ∧ w'.cell? ⟨ad2212.block, ad2212.off + 1, none⟩ = some (.int .i64 ((rd_T26 l0 0).f1)) ∧ w'.cell? ⟨ad2212.block, ad2212.off + 4, none⟩ = some (.int .i64 ((rd_T26 l0 2).f0)) ∧ w'.cell? ⟨ad2212.block, ad2212.off + 4 + 1, none⟩ = some (.int .i64 ((rd_T26 l0 2).f1)) ∧ w'.cell? ad2212 = some (.int .i64 ((rd_T26 l0 0).f0)) ∧ w'.cell? ⟨ad2212.block, ad2212.off + 1, none⟩ = some (.int .i64 ((rd_T26 l0 0).f1))) ∧ (Kd.R k26 26 w' w.heap.size (fun k_ => k_ ≠ s_.1 ∧ k_ ≠ s_.2) v2210 y2209) ∧ (w'.heap[s_.1]? = some (.cells #[.int .i64 0, .int .i64 0] 26 (0, 0))) ∧ (w'.heap[s_.2]? = some (.cells #[.int .i64 0, .int .i64 0] 26 (0, 0))) ∧ (w.heap.size ≤ s_.1) ∧ (w.heap.size ≤ s_.1) ∧ (s_.2 ≠ s_.1) ∧ (s_.1 ≠ s_.2) ∧ (w.heap.size ≤ s_.2) ∧ (w.heap.size ≤ s_.2) ∧ (Below w.heap.size w w')) ?_ ?_
           rotate_left
           ·intro hJ14_15
            refine join_ (σ := Unit) 5 (zl 18 8191) (fun s_ => [(21, .agg #[.int .i64 t2214, .int .i64 t2215])]) (fun s_ w' => (w'.cell? ⟨ad2212.block, ad2212.off + 2, none⟩ = some (.int .i64 ((rd_T26 l0 1).f0)) ∧ w'.cell? ⟨ad2212.block, ad2212.off + 2 + 1, none⟩ = some (.int .i64 ((rd_T26 l0 1).f1)) ∧ w'.cell? ad2212 = some (.int .i64 ((rd_T26 l0 0).f0)) ∧ w'.cell? ⟨ad2212.block, ad2212.off + 1, none⟩ = some (.int .i64 ((rd_T26 l0 0).f1)) ∧ w'.cell? ⟨ad2212.block, ad2212.off + 4, none⟩ = some (.int .i64 ((rd_T26 l0 2).f0)) ∧ w'.cell? ⟨ad2212.block, ad2212.off + 4 + 1, none⟩ = some (.int .i64 ((rd_T26 l0 2).f1)) ∧ w'.cell? ad2212 = some (.int .i64 ((rd_T26 l0 0).f0)) ∧ w'.cell? ⟨ad2212.block, ad2212.off + 1, none⟩ = some (.int .i64 ((rd_T26 l0 0).f1))) ∧ (Kd.R k26 26 w' w.heap.size (fun _ => True) v2210 y2209) ∧ (Below w.heap.size w w')) ?_ ?_
            rotate_left
            ·intro hJ6
             refine join_ (σ := Nat) 5 (zl 18 24511) (fun s_ => [(6, .pointer (some ⟨s_, 0, none⟩))]) (fun s_ w' => (w'.cell? ⟨ad2212.block, ad2212.off + 2, none⟩ = some (.int .i64 ((rd_T26 l0 1).f0)) ∧ w'.cell? ⟨ad2212.block, ad2212.off + 2 + 1, none⟩ = some (.int .i64 ((rd_T26 l0 1).f1)) ∧ w'.cell? ad2212 = some (.int .i64 ((rd_T26 l0 0).f0)) ∧ w'.cell? ⟨ad2212.block, ad2212.off + 1, none⟩ = some (.int .i64 ((rd_T26 l0 0).f1)) ∧ w'.cell? ⟨ad2212.block, ad2212.off + 4, none⟩ = some (.int .i64 ((rd_T26 l0 2).f0)) ∧ w'.cell? ⟨ad2212.block, ad2212.off + 4 + 1, none⟩ = some (.int .i64 ((rd_T26 l0 2).f1)) ∧ w'.cell? ad2212 = some (.int .i64 ((rd_T26 l0 0).f0)) ∧ w'.cell? ⟨ad2212.block, ad2212.off + 1, none⟩ = some (.int .i64 ((rd_T26 l0 0).f1))) ∧ (Kd.R k26 26 w' w.heap.size (fun k_ => k_ ≠ s_) v2210 y2209) ∧ (w'.heap[s_]? = some (.cells #[.int .i64 0, .int .i64 0] 26 (0, 0))) ∧ (w.heap.size ≤ s_) ∧ (w.heap.size ≤ s_) ∧ (Below w.heap.size w w')) ?_ ?_
             rotate_left
             ·intro hJ14
              refine join_ (σ := Nat) 5 (zl 18 40895) (fun s_ => [(7, .pointer (some ⟨s_, 0, none⟩))]) (fun s_ w' => (w'.cell? ⟨ad2212.block, ad2212.off + 2, none⟩ = some (.int .i64 ((rd_T26 l0 1).f0)) ∧ w'.cell? ⟨ad2212.block, ad2212.off + 2 + 1, none⟩ = some (.int .i64 ((rd_T26 l0 1).f1)) ∧ w'.cell? ad2212 = some (.int .i64 ((rd_T26 l0 0).f0)) ∧ w'.cell? ⟨ad2212.block, ad2212.off + 1, none⟩ = some (.int .i64 ((rd_T26 l0 0).f1)) ∧ w'.cell? ⟨ad2212.block, ad2212.off + 4, none⟩ = some (.int .i64 ((rd_T26 l0 2).f0)) ∧ w'.cell? ⟨ad2212.block, ad2212.off + 4 + 1, none⟩ = some (.int .i64 ((rd_T26 l0 2).f1)) ∧ w'.cell? ad2212 = some (.int .i64 ((rd_T26 l0 0).f0)) ∧ w'.cell? ⟨ad2212.block, ad2212.off + 1, none⟩ = some (.int .i64 ((rd_T26 l0 0).f1))) ∧ (Kd.R k26 26 w' w.heap.size (fun k_ => k_ ≠ s_) v2210 y2209) ∧ (w'.heap[s_]? = some (.cells #[.int .i64 0, .int .i64 0] 26 (0, 0))) ∧ (w.heap.size ≤ s_) ∧ (w.heap.size ≤ s_) ∧ (Below w.heap.size w w')) ?_ ?_
              rotate_left
              ·intro hJ15
               refine three_ (i := 6) (j := 14) (k := 15) (Ni := some 21) (Nj := some 6) (Nk := some 7) (zl 18 8191) (zl 18 24511) (zl 18 40895) rfl rfl rfl rfl rfl rfl (three_of HT_.out (by kernel_rfl)) (by decide) (by decide) (by decide) (fun K hK => ?_) (fun K hK => ?_) (fun K hK => ?_)
               ·skip
                refine goes_ Try.func202 (by kernel_rfl) rfl #[.agg #[.int .i64 ((rd_T26 l0 1).f0), .int .i64 ((rd_T26 l0 1).f1)], .agg #[.int .i64 ((rd_T26 l0 0).f0), .int .i64 ((rd_T26 l0 0).f1)]] (by rfl) rfl rfl zn ?_
                with_reducible refine (impl_Peg_less.calls ((rd_T26 l0 1).f0) ((rd_T26 l0 1).f1) ((rd_T26 l0 0).f0) ((rd_T26 l0 0).f1) t2214 t2215 _ A5.out).mono ?_
                rintro e w12 ⟨rfl, hb⟩
                refine ⟨_, rfl, ?_⟩
                have n0_ := Aside0.mk (Kd.R_below (by (with_reducible repeat (first | apply Kd.R_alloc | apply Kd.R_drewN | apply Kd.R_drew)); exact HO2211.out) hb)
                have n1_ := Aside0.mk (below_step zb hb)
                clear HO2211
                clear HB
                have HO2211 := n0_
                have HB := n1_
                clear n0_ n1_
                (try clear hb)
                (try clear hb2)
                (try clear hk)
                (try clear hi)
                refine hK.out _ _ ⟨(zc HB hw2212_0), (zc HB hw2212_1), (zc HB hw2213_0), (zc HB hw2213_1), (zc HB hw2216_0), (zc HB hw2216_1), (zc HB hw2217_0), (zc HB hw2217_1)⟩ (fun hHeld => ?_)
                clear hK K
                refine norm_ (a' := ?_) ?_ ?_
                rotate_left
                ·show Act.put _ (some 21) _ = _
                 exact zs
                exact norm_ (by first | (simp only [putAll, Act.put, List.setIfInBounds_toArray, List.set_cons_zero, List.set_cons_succ]; done) | (simp only [putAll, Act.put, List.setIfInBounds_toArray, List.set_cons_zero, List.set_cons_succ]; rfl)) (hJ6 () _ ⟨hHeld, (by (with_reducible repeat (first | apply Kd.R_alloc | apply Kd.R_drewN | apply Kd.R_drew)); exact HO2211.out), zb⟩)
               ·skip
                refine box_step ?hg (N := 6) ?hd (cs := #[.int .i64 0, .int .i64 0]) (t := 26) ?hr ?_; (case hd => rfl); (case hg => rfl); (case hr => first | (go_simp; done) | (go_simp; rfl))
                intro gb2220 hg w12 hbox hb
                have n0_ := Aside0.mk (Kd.R_below (Kd.R_elderB (by (with_reducible repeat (first | apply Kd.R_alloc | apply Kd.R_drewN | apply Kd.R_drew)); exact HO2211.out) gb2220 (Nat.le_of_eq hg.symm)) hb)
                have n1_ := Aside0.mk (below_step zb hb)
                have n2_ := Aside0.mk (hbox)
                have n3_ := Aside0.mk ((by rw [hg]; exact (below_size zb) : w.heap.size ≤ gb2220))
                have n4_ := Aside0.mk ((by rw [hg]; exact (below_size zb) : w.heap.size ≤ gb2220))
                clear HO2211
                clear HB
                have HO2211 := n0_
                have HB := n1_
                have BK2220 := n2_
                have GW2220 := n3_
                have GE2220 := n4_
                clear n0_ n1_ n2_ n3_ n4_
                clear hb hbox hg
                refine hK.out _ _ ⟨(zc HB hw2212_0), (zc HB hw2212_1), (zc HB hw2213_0), (zc HB hw2213_1), (zc HB hw2216_0), (zc HB hw2216_1), (zc HB hw2217_0), (zc HB hw2217_1)⟩ (fun hHeld => ?_)
                clear hK K
                refine norm_ (a' := ?_) ?_ ?_
                rotate_left
                ·show Act.put _ (some 6) _ = _
                 exact zs
                exact norm_ (by first | (simp only [putAll, Act.put, List.setIfInBounds_toArray, List.set_cons_zero, List.set_cons_succ]; done) | (simp only [putAll, Act.put, List.setIfInBounds_toArray, List.set_cons_zero, List.set_cons_succ]; rfl)) (hJ14 (gb2220) _ ⟨hHeld, (by (with_reducible repeat (first | apply Kd.R_alloc | apply Kd.R_drewN | apply Kd.R_drew)); exact Kd.R_mono HO2211.out (fun _ hk => hk.2)), zk, GW2220.out, GE2220.out, zb⟩)
               ·skip
                refine box_step ?hg (N := 7) ?hd (cs := #[.int .i64 0, .int .i64 0]) (t := 26) ?hr ?_; (case hd => rfl); (case hg => rfl); (case hr => first | (go_simp; done) | (go_simp; rfl))
                intro gb2221 hg w12 hbox hb
                have n0_ := Aside0.mk (Kd.R_below (Kd.R_elderB (by (with_reducible repeat (first | apply Kd.R_alloc | apply Kd.R_drewN | apply Kd.R_drew)); exact HO2211.out) gb2221 (Nat.le_of_eq hg.symm)) hb)
                have n1_ := Aside0.mk (below_step zb hb)
                have n2_ := Aside0.mk (hbox)
                have n3_ := Aside0.mk ((by rw [hg]; exact (below_size zb) : w.heap.size ≤ gb2221))
                have n4_ := Aside0.mk ((by rw [hg]; exact (below_size zb) : w.heap.size ≤ gb2221))
                clear HO2211
                clear HB
                have HO2211 := n0_
                have HB := n1_
                have BK2221 := n2_
                have GW2221 := n3_
                have GE2221 := n4_
                clear n0_ n1_ n2_ n3_ n4_
                clear hb hbox hg
                refine hK.out _ _ ⟨(zc HB hw2212_0), (zc HB hw2212_1), (zc HB hw2213_0), (zc HB hw2213_1), (zc HB hw2216_0), (zc HB hw2216_1), (zc HB hw2217_0), (zc HB hw2217_1)⟩ (fun hHeld => ?_)
                clear hK K
                refine norm_ (a' := ?_) ?_ ?_
                rotate_left
                ·show Act.put _ (some 7) _ = _
                 exact zs
                exact norm_ (by first | (simp only [putAll, Act.put, List.setIfInBounds_toArray, List.set_cons_zero, List.set_cons_succ]; done) | (simp only [putAll, Act.put, List.setIfInBounds_toArray, List.set_cons_zero, List.set_cons_succ]; rfl)) (hJ15 (gb2221) _ ⟨hHeld, (by (with_reducible repeat (first | apply Kd.R_alloc | apply Kd.R_drewN | apply Kd.R_drew)); exact Kd.R_mono HO2211.out (fun _ hk => hk.2)), zk, GW2221.out, GE2221.out, zb⟩)
              ·skip
               rintro gb2221 w13 ⟨hS_, h0_, h1_, h2_, h3_, h4_⟩
               have n0_ : Aside0 (Kd.R k26 26 w13 w.heap.size (fun k_ => k_ ≠ gb2221) v2210 y2209) := ⟨h0_⟩
               have n1_ : Aside0 (w13.heap[gb2221]? = some (.cells #[.int .i64 0, .int .i64 0] 26 (0, 0))) := ⟨h1_⟩
               have n2_ : Aside0 (w.heap.size ≤ gb2221) := ⟨h2_⟩
               have n3_ : Aside0 (w.heap.size ≤ gb2221) := ⟨h3_⟩
               have n4_ : Aside0 (Below w.heap.size w w13) := ⟨h4_⟩
               clear HO2211
               clear HB
               clear h0_ h1_ h2_ h3_ h4_
               have HO2211 := n0_
               have BK2221 := n1_
               have GW2221 := n2_
               have GE2221 := n3_
               have HB := n4_
               clear n0_ n1_ n2_ n3_ n4_
               have hHeld : w13.cell? ⟨ad2212.block, ad2212.off + 2, none⟩ = some (.int .i64 ((rd_T26 l0 1).f0)) ∧ w13.cell? ⟨ad2212.block, ad2212.off + 2 + 1, none⟩ = some (.int .i64 ((rd_T26 l0 1).f1)) ∧ w13.cell? ad2212 = some (.int .i64 ((rd_T26 l0 0).f0)) ∧ w13.cell? ⟨ad2212.block, ad2212.off + 1, none⟩ = some (.int .i64 ((rd_T26 l0 0).f1)) ∧ w13.cell? ⟨ad2212.block, ad2212.off + 4, none⟩ = some (.int .i64 ((rd_T26 l0 2).f0)) ∧ w13.cell? ⟨ad2212.block, ad2212.off + 4 + 1, none⟩ = some (.int .i64 ((rd_T26 l0 2).f1)) ∧ w13.cell? ad2212 = some (.int .i64 ((rd_T26 l0 0).f0)) ∧ w13.cell? ⟨ad2212.block, ad2212.off + 1, none⟩ = some (.int .i64 ((rd_T26 l0 0).f1)) := hS_
               refine norm_ (a' := ?_) ?_ ?_
               rotate_left
               ·simp only [putAll, Act.put, List.setIfInBounds_toArray, List.set_cons_zero, List.set_cons_succ]
                rfl
               refine two_ (i := 6) (j := 14) (Ni := some 21) (Nj := some 6) (zl 18 40959) (zl 18 57279) rfl rfl rfl rfl (two_of HT_.out (by kernel_rfl)) (by decide) (by decide) (fun K hK => ?_) (fun K hK => ?_)
               ·skip
                refine goes_ Try.func202 (by kernel_rfl) rfl #[.agg #[.int .i64 ((rd_T26 l0 1).f0), .int .i64 ((rd_T26 l0 1).f1)], .agg #[.int .i64 ((rd_T26 l0 0).f0), .int .i64 ((rd_T26 l0 0).f1)]] (by rfl) rfl rfl zn ?_
                with_reducible refine (impl_Peg_less.calls ((rd_T26 l0 1).f0) ((rd_T26 l0 1).f1) ((rd_T26 l0 0).f0) ((rd_T26 l0 0).f1) t2214 t2215 _ A5.out).mono ?_
                rintro e w14 ⟨rfl, hb⟩
                refine ⟨_, rfl, ?_⟩
                have n0_ := Aside0.mk (Kd.R_below (by (with_reducible repeat (first | apply Kd.R_alloc | apply Kd.R_drewN | apply Kd.R_drew)); exact HO2211.out) hb)
                have n1_ := Aside0.mk (blk_below (g := gb2221) (o := .cells #[.int .i64 0, .int .i64 0] 26 (0, 0)) zk hb)
                have n2_ := Aside0.mk (below_step zb hb)
                clear HO2211
                clear BK2221
                clear HB
                have HO2211 := n0_
                have BK2221 := n1_
                have HB := n2_
                clear n0_ n1_ n2_
                (try clear hb)
                (try clear hb2)
                (try clear hk)
                (try clear hi)
                refine hK.out _ _ ⟨(zc HB hw2212_0), (zc HB hw2212_1), (zc HB hw2213_0), (zc HB hw2213_1), (zc HB hw2216_0), (zc HB hw2216_1), (zc HB hw2217_0), (zc HB hw2217_1)⟩ (fun hHeld => ?_)
                clear hK K
                refine norm_ (a' := ?_) ?_ ?_
                rotate_left
                ·show Act.put _ (some 21) _ = _
                 exact zs
                exact norm_ (by first | (simp only [putAll, Act.put, List.setIfInBounds_toArray, List.set_cons_zero, List.set_cons_succ]; done) | (simp only [putAll, Act.put, List.setIfInBounds_toArray, List.set_cons_zero, List.set_cons_succ]; rfl)) (hJ6_15 (gb2221) _ ⟨hHeld, (by (with_reducible repeat (first | apply Kd.R_alloc | apply Kd.R_drewN | apply Kd.R_drew)); exact HO2211.out), zk, GW2221.out, GE2221.out, zb⟩)
               ·skip
                refine box_step ?hg (N := 6) ?hd (cs := #[.int .i64 0, .int .i64 0]) (t := 26) ?hr ?_; (case hd => rfl); (case hg => rfl); (case hr => first | (go_simp; done) | (go_simp; rfl))
                intro gb2220 hg w14 hbox hb
                have n0_ := Aside0.mk (Kd.R_below (Kd.R_elderB (by (with_reducible repeat (first | apply Kd.R_alloc | apply Kd.R_drewN | apply Kd.R_drew)); exact HO2211.out) gb2220 (Nat.le_of_eq hg.symm)) hb)
                have n1_ := Aside0.mk (blk_below (g := gb2221) (o := .cells #[.int .i64 0, .int .i64 0] 26 (0, 0)) zk hb)
                have n2_ := Aside0.mk (below_step zb hb)
                have n3_ := Aside0.mk (hbox)
                have n4_ := Aside0.mk ((by rw [hg]; exact (below_size zb) : w.heap.size ≤ gb2220))
                have n5_ := Aside0.mk ((by rw [hg]; exact (below_size zb) : w.heap.size ≤ gb2220))
                have n6_ := Aside0.mk ((by rw [hg]; exact Nat.ne_of_lt (blk_lt (g := gb2221) (o := .cells #[.int .i64 0, .int .i64 0] 26 (0, 0)) zk) : gb2221 ≠ gb2220))
                have n7_ := Aside0.mk ((by rw [hg]; exact Nat.ne_of_gt (blk_lt (g := gb2221) (o := .cells #[.int .i64 0, .int .i64 0] 26 (0, 0)) zk) : gb2220 ≠ gb2221))
                clear HO2211
                clear BK2221
                clear HB
                have HO2211 := n0_
                have BK2221 := n1_
                have HB := n2_
                have BK2220 := n3_
                have GW2220 := n4_
                have GE2220 := n5_
                have NB2221_2220 := n6_
                have NB2220_2221 := n7_
                clear n0_ n1_ n2_ n3_ n4_ n5_ n6_ n7_
                clear hb hbox hg
                refine hK.out _ _ ⟨(zc HB hw2212_0), (zc HB hw2212_1), (zc HB hw2213_0), (zc HB hw2213_1), (zc HB hw2216_0), (zc HB hw2216_1), (zc HB hw2217_0), (zc HB hw2217_1)⟩ (fun hHeld => ?_)
                clear hK K
                refine norm_ (a' := ?_) ?_ ?_
                rotate_left
                ·show Act.put _ (some 6) _ = _
                 exact zs
                exact norm_ (by first | (simp only [putAll, Act.put, List.setIfInBounds_toArray, List.set_cons_zero, List.set_cons_succ]; done) | (simp only [putAll, Act.put, List.setIfInBounds_toArray, List.set_cons_zero, List.set_cons_succ]; rfl)) (hJ14_15 (gb2220, gb2221) _ ⟨hHeld, (by (with_reducible repeat (first | apply Kd.R_alloc | apply Kd.R_drewN | apply Kd.R_drew)); exact Kd.R_mono HO2211.out (fun _ hk => ⟨hk.2, hk.1⟩)), zk, zk, GW2220.out, GE2220.out, NB2221_2220.out, NB2220_2221.out, GW2221.out, GE2221.out, zb⟩)
             ·skip
              rintro gb2220 w13 ⟨hS_, h0_, h1_, h2_, h3_, h4_⟩
              have n0_ : Aside0 (Kd.R k26 26 w13 w.heap.size (fun k_ => k_ ≠ gb2220) v2210 y2209) := ⟨h0_⟩
              have n1_ : Aside0 (w13.heap[gb2220]? = some (.cells #[.int .i64 0, .int .i64 0] 26 (0, 0))) := ⟨h1_⟩
              have n2_ : Aside0 (w.heap.size ≤ gb2220) := ⟨h2_⟩
              have n3_ : Aside0 (w.heap.size ≤ gb2220) := ⟨h3_⟩
              have n4_ : Aside0 (Below w.heap.size w w13) := ⟨h4_⟩
              clear HO2211
              clear HB
              clear h0_ h1_ h2_ h3_ h4_
              have HO2211 := n0_
              have BK2220 := n1_
              have GW2220 := n2_
              have GE2220 := n3_
              have HB := n4_
              clear n0_ n1_ n2_ n3_ n4_
              have hHeld : w13.cell? ⟨ad2212.block, ad2212.off + 2, none⟩ = some (.int .i64 ((rd_T26 l0 1).f0)) ∧ w13.cell? ⟨ad2212.block, ad2212.off + 2 + 1, none⟩ = some (.int .i64 ((rd_T26 l0 1).f1)) ∧ w13.cell? ad2212 = some (.int .i64 ((rd_T26 l0 0).f0)) ∧ w13.cell? ⟨ad2212.block, ad2212.off + 1, none⟩ = some (.int .i64 ((rd_T26 l0 0).f1)) ∧ w13.cell? ⟨ad2212.block, ad2212.off + 4, none⟩ = some (.int .i64 ((rd_T26 l0 2).f0)) ∧ w13.cell? ⟨ad2212.block, ad2212.off + 4 + 1, none⟩ = some (.int .i64 ((rd_T26 l0 2).f1)) ∧ w13.cell? ad2212 = some (.int .i64 ((rd_T26 l0 0).f0)) ∧ w13.cell? ⟨ad2212.block, ad2212.off + 1, none⟩ = some (.int .i64 ((rd_T26 l0 0).f1)) := hS_
              refine norm_ (a' := ?_) ?_ ?_
              rotate_left
              ·simp only [putAll, Act.put, List.setIfInBounds_toArray, List.set_cons_zero, List.set_cons_succ]
               rfl
              refine two_ (i := 6) (j := 15) (Ni := some 21) (Nj := some 7) (zl 18 24575) (zl 18 57279) rfl rfl rfl rfl (two_of HT_.out (by kernel_rfl)) (by decide) (by decide) (fun K hK => ?_) (fun K hK => ?_)
              ·skip
               refine goes_ Try.func202 (by kernel_rfl) rfl #[.agg #[.int .i64 ((rd_T26 l0 1).f0), .int .i64 ((rd_T26 l0 1).f1)], .agg #[.int .i64 ((rd_T26 l0 0).f0), .int .i64 ((rd_T26 l0 0).f1)]] (by rfl) rfl rfl zn ?_
               with_reducible refine (impl_Peg_less.calls ((rd_T26 l0 1).f0) ((rd_T26 l0 1).f1) ((rd_T26 l0 0).f0) ((rd_T26 l0 0).f1) t2214 t2215 _ A5.out).mono ?_
               rintro e w14 ⟨rfl, hb⟩
               refine ⟨_, rfl, ?_⟩
               have n0_ := Aside0.mk (Kd.R_below (by (with_reducible repeat (first | apply Kd.R_alloc | apply Kd.R_drewN | apply Kd.R_drew)); exact HO2211.out) hb)
               have n1_ := Aside0.mk (blk_below (g := gb2220) (o := .cells #[.int .i64 0, .int .i64 0] 26 (0, 0)) zk hb)
               have n2_ := Aside0.mk (below_step zb hb)
               clear HO2211
               clear BK2220
               clear HB
               have HO2211 := n0_
               have BK2220 := n1_
               have HB := n2_
               clear n0_ n1_ n2_
               (try clear hb)
               (try clear hb2)
               (try clear hk)
               (try clear hi)
               refine hK.out _ _ ⟨(zc HB hw2212_0), (zc HB hw2212_1), (zc HB hw2213_0), (zc HB hw2213_1), (zc HB hw2216_0), (zc HB hw2216_1), (zc HB hw2217_0), (zc HB hw2217_1)⟩ (fun hHeld => ?_)
               clear hK K
               refine norm_ (a' := ?_) ?_ ?_
               rotate_left
               ·show Act.put _ (some 21) _ = _
                exact zs
               exact norm_ (by first | (simp only [putAll, Act.put, List.setIfInBounds_toArray, List.set_cons_zero, List.set_cons_succ]; done) | (simp only [putAll, Act.put, List.setIfInBounds_toArray, List.set_cons_zero, List.set_cons_succ]; rfl)) (hJ6_14 (gb2220) _ ⟨hHeld, (by (with_reducible repeat (first | apply Kd.R_alloc | apply Kd.R_drewN | apply Kd.R_drew)); exact HO2211.out), zk, GW2220.out, GE2220.out, zb⟩)
              ·skip
               refine box_step ?hg (N := 7) ?hd (cs := #[.int .i64 0, .int .i64 0]) (t := 26) ?hr ?_; (case hd => rfl); (case hg => rfl); (case hr => first | (go_simp; done) | (go_simp; rfl))
               intro gb2221 hg w14 hbox hb
               have n0_ := Aside0.mk (Kd.R_below (Kd.R_elderB (by (with_reducible repeat (first | apply Kd.R_alloc | apply Kd.R_drewN | apply Kd.R_drew)); exact HO2211.out) gb2221 (Nat.le_of_eq hg.symm)) hb)
               have n1_ := Aside0.mk (blk_below (g := gb2220) (o := .cells #[.int .i64 0, .int .i64 0] 26 (0, 0)) zk hb)
               have n2_ := Aside0.mk (below_step zb hb)
               have n3_ := Aside0.mk (hbox)
               have n4_ := Aside0.mk ((by rw [hg]; exact (below_size zb) : w.heap.size ≤ gb2221))
               have n5_ := Aside0.mk ((by rw [hg]; exact (below_size zb) : w.heap.size ≤ gb2221))
               have n6_ := Aside0.mk ((by rw [hg]; exact Nat.ne_of_lt (blk_lt (g := gb2220) (o := .cells #[.int .i64 0, .int .i64 0] 26 (0, 0)) zk) : gb2220 ≠ gb2221))
               have n7_ := Aside0.mk ((by rw [hg]; exact Nat.ne_of_gt (blk_lt (g := gb2220) (o := .cells #[.int .i64 0, .int .i64 0] 26 (0, 0)) zk) : gb2221 ≠ gb2220))
               clear HO2211
               clear BK2220
               clear HB
               have HO2211 := n0_
               have BK2220 := n1_
               have HB := n2_
               have BK2221 := n3_
               have GW2221 := n4_
               have GE2221 := n5_
               have NB2220_2221 := n6_
               have NB2221_2220 := n7_
               clear n0_ n1_ n2_ n3_ n4_ n5_ n6_ n7_
               clear hb hbox hg
               refine hK.out _ _ ⟨(zc HB hw2212_0), (zc HB hw2212_1), (zc HB hw2213_0), (zc HB hw2213_1), (zc HB hw2216_0), (zc HB hw2216_1), (zc HB hw2217_0), (zc HB hw2217_1)⟩ (fun hHeld => ?_)
               clear hK K
               refine norm_ (a' := ?_) ?_ ?_
               rotate_left
               ·show Act.put _ (some 7) _ = _
                exact zs
               exact norm_ (by first | (simp only [putAll, Act.put, List.setIfInBounds_toArray, List.set_cons_zero, List.set_cons_succ]; done) | (simp only [putAll, Act.put, List.setIfInBounds_toArray, List.set_cons_zero, List.set_cons_succ]; rfl)) (hJ14_15 (gb2220, gb2221) _ ⟨hHeld, (by (with_reducible repeat (first | apply Kd.R_alloc | apply Kd.R_drewN | apply Kd.R_drew)); exact HO2211.out), zk, zk, GW2220.out, GE2220.out, NB2221_2220.out, NB2220_2221.out, GW2221.out, GE2221.out, zb⟩)
            ·skip
             rintro _ w13 ⟨hS_, h0_, h1_⟩
             have n0_ : Aside0 (Kd.R k26 26 w13 w.heap.size (fun _ => True) v2210 y2209) := ⟨h0_⟩
             have n1_ : Aside0 (Below w.heap.size w w13) := ⟨h1_⟩
             clear HO2211
             clear HB
             clear h0_ h1_
             have HO2211 := n0_
             have HB := n1_
             clear n0_ n1_
             have hHeld : w13.cell? ⟨ad2212.block, ad2212.off + 2, none⟩ = some (.int .i64 ((rd_T26 l0 1).f0)) ∧ w13.cell? ⟨ad2212.block, ad2212.off + 2 + 1, none⟩ = some (.int .i64 ((rd_T26 l0 1).f1)) ∧ w13.cell? ad2212 = some (.int .i64 ((rd_T26 l0 0).f0)) ∧ w13.cell? ⟨ad2212.block, ad2212.off + 1, none⟩ = some (.int .i64 ((rd_T26 l0 0).f1)) ∧ w13.cell? ⟨ad2212.block, ad2212.off + 4, none⟩ = some (.int .i64 ((rd_T26 l0 2).f0)) ∧ w13.cell? ⟨ad2212.block, ad2212.off + 4 + 1, none⟩ = some (.int .i64 ((rd_T26 l0 2).f1)) ∧ w13.cell? ad2212 = some (.int .i64 ((rd_T26 l0 0).f0)) ∧ w13.cell? ⟨ad2212.block, ad2212.off + 1, none⟩ = some (.int .i64 ((rd_T26 l0 0).f1)) := hS_
             refine norm_ (a' := ?_) ?_ ?_
             rotate_left
             ·simp only [putAll, Act.put, List.setIfInBounds_toArray, List.set_cons_zero, List.set_cons_succ]
              rfl
             refine three_ (i := 13) (j := 14) (k := 15) (Ni := some 28) (Nj := some 6) (Nk := some 7) (zl 18 16383) (zl 18 24575) (zl 18 40959) rfl rfl rfl rfl rfl rfl (three_of HT_.out (by kernel_rfl)) (by decide) (by decide) (by decide) (fun K hK => ?_) (fun K hK => ?_) (fun K hK => ?_)
             ·skip
              refine goes_ Try.func202 (by kernel_rfl) rfl #[.agg #[.int .i64 ((rd_T26 l0 2).f0), .int .i64 ((rd_T26 l0 2).f1)], .agg #[.int .i64 ((rd_T26 l0 0).f0), .int .i64 ((rd_T26 l0 0).f1)]] (by rfl) rfl rfl zn ?_
              with_reducible refine (impl_Peg_less.calls ((rd_T26 l0 2).f0) ((rd_T26 l0 2).f1) ((rd_T26 l0 0).f0) ((rd_T26 l0 0).f1) t2218 t2219 _ A7.out).mono ?_
              rintro e w14 ⟨rfl, hb⟩
              refine ⟨_, rfl, ?_⟩
              have n0_ := Aside0.mk (Kd.R_below (by (with_reducible repeat (first | apply Kd.R_alloc | apply Kd.R_drewN | apply Kd.R_drew)); exact HO2211.out) hb)
              have n1_ := Aside0.mk (below_step zb hb)
              clear HO2211
              clear HB
              have HO2211 := n0_
              have HB := n1_
              clear n0_ n1_
              (try clear hb)
              (try clear hb2)
              (try clear hk)
              (try clear hi)
              refine hK.out _ _ ⟨(zc HB hw2212_0), (zc HB hw2212_1), (zc HB hw2213_0), (zc HB hw2213_1), (zc HB hw2216_0), (zc HB hw2216_1), (zc HB hw2217_0), (zc HB hw2217_1)⟩ (fun hHeld => ?_)
              clear hK K
              refine norm_ (a' := ?_) ?_ ?_
              rotate_left
              ·show Act.put _ (some 28) _ = _
               exact zs
              exact norm_ (by first | (simp only [putAll, Act.put, List.setIfInBounds_toArray, List.set_cons_zero, List.set_cons_succ]; done) | (simp only [putAll, Act.put, List.setIfInBounds_toArray, List.set_cons_zero, List.set_cons_succ]; rfl)) (hJ6_13 () _ ⟨hHeld, (by (with_reducible repeat (first | apply Kd.R_alloc | apply Kd.R_drewN | apply Kd.R_drew)); exact HO2211.out), zb⟩)
             ·skip
              refine box_step ?hg (N := 6) ?hd (cs := #[.int .i64 0, .int .i64 0]) (t := 26) ?hr ?_; (case hd => rfl); (case hg => rfl); (case hr => first | (go_simp; done) | (go_simp; rfl))
              intro gb2220 hg w14 hbox hb
              have n0_ := Aside0.mk (Kd.R_below (Kd.R_elderB (by (with_reducible repeat (first | apply Kd.R_alloc | apply Kd.R_drewN | apply Kd.R_drew)); exact HO2211.out) gb2220 (Nat.le_of_eq hg.symm)) hb)
              have n1_ := Aside0.mk (below_step zb hb)
              have n2_ := Aside0.mk (hbox)
              have n3_ := Aside0.mk ((by rw [hg]; exact (below_size zb) : w.heap.size ≤ gb2220))
              have n4_ := Aside0.mk ((by rw [hg]; exact (below_size zb) : w.heap.size ≤ gb2220))
              clear HO2211
              clear HB
              have HO2211 := n0_
              have HB := n1_
              have BK2220 := n2_
              have GW2220 := n3_
              have GE2220 := n4_
              clear n0_ n1_ n2_ n3_ n4_
              clear hb hbox hg
              refine hK.out _ _ ⟨(zc HB hw2212_0), (zc HB hw2212_1), (zc HB hw2213_0), (zc HB hw2213_1), (zc HB hw2216_0), (zc HB hw2216_1), (zc HB hw2217_0), (zc HB hw2217_1)⟩ (fun hHeld => ?_)
              clear hK K
              refine norm_ (a' := ?_) ?_ ?_
              rotate_left
              ·show Act.put _ (some 6) _ = _
               exact zs
              exact norm_ (by first | (simp only [putAll, Act.put, List.setIfInBounds_toArray, List.set_cons_zero, List.set_cons_succ]; done) | (simp only [putAll, Act.put, List.setIfInBounds_toArray, List.set_cons_zero, List.set_cons_succ]; rfl)) (hJ6_14 (gb2220) _ ⟨hHeld, (by (with_reducible repeat (first | apply Kd.R_alloc | apply Kd.R_drewN | apply Kd.R_drew)); exact Kd.R_mono HO2211.out (fun _ hk => hk.2)), zk, GW2220.out, GE2220.out, zb⟩)
             ·skip
              refine box_step ?hg (N := 7) ?hd (cs := #[.int .i64 0, .int .i64 0]) (t := 26) ?hr ?_; (case hd => rfl); (case hg => rfl); (case hr => first | (go_simp; done) | (go_simp; rfl))
              intro gb2221 hg w14 hbox hb
              have n0_ := Aside0.mk (Kd.R_below (Kd.R_elderB (by (with_reducible repeat (first | apply Kd.R_alloc | apply Kd.R_drewN | apply Kd.R_drew)); exact HO2211.out) gb2221 (Nat.le_of_eq hg.symm)) hb)
              have n1_ := Aside0.mk (below_step zb hb)
              have n2_ := Aside0.mk (hbox)
              have n3_ := Aside0.mk ((by rw [hg]; exact (below_size zb) : w.heap.size ≤ gb2221))
              have n4_ := Aside0.mk ((by rw [hg]; exact (below_size zb) : w.heap.size ≤ gb2221))
              clear HO2211
              clear HB
              have HO2211 := n0_
              have HB := n1_
              have BK2221 := n2_
              have GW2221 := n3_
              have GE2221 := n4_
              clear n0_ n1_ n2_ n3_ n4_
              clear hb hbox hg
              refine hK.out _ _ ⟨(zc HB hw2212_0), (zc HB hw2212_1), (zc HB hw2213_0), (zc HB hw2213_1), (zc HB hw2216_0), (zc HB hw2216_1), (zc HB hw2217_0), (zc HB hw2217_1)⟩ (fun hHeld => ?_)
              clear hK K
              refine norm_ (a' := ?_) ?_ ?_
              rotate_left
              ·show Act.put _ (some 7) _ = _
               exact zs
              exact norm_ (by first | (simp only [putAll, Act.put, List.setIfInBounds_toArray, List.set_cons_zero, List.set_cons_succ]; done) | (simp only [putAll, Act.put, List.setIfInBounds_toArray, List.set_cons_zero, List.set_cons_succ]; rfl)) (hJ6_15 (gb2221) _ ⟨hHeld, (by (with_reducible repeat (first | apply Kd.R_alloc | apply Kd.R_drewN | apply Kd.R_drew)); exact Kd.R_mono HO2211.out (fun _ hk => hk.2)), zk, GW2221.out, GE2221.out, zb⟩)
           ·skip
            rintro ⟨gb2220, gb2221⟩ w14 ⟨hS_, h0_, h1_, h2_, h3_, h4_, h5_, h6_, h7_, h8_, h9_⟩
            have n0_ : Aside0 (Kd.R k26 26 w14 w.heap.size (fun k_ => k_ ≠ gb2220 ∧ k_ ≠ gb2221) v2210 y2209) := ⟨h0_⟩
            have n1_ : Aside0 (w14.heap[gb2220]? = some (.cells #[.int .i64 0, .int .i64 0] 26 (0, 0))) := ⟨h1_⟩
            have n2_ : Aside0 (w14.heap[gb2221]? = some (.cells #[.int .i64 0, .int .i64 0] 26 (0, 0))) := ⟨h2_⟩
            have n3_ : Aside0 (w.heap.size ≤ gb2220) := ⟨h3_⟩
            have n4_ : Aside0 (w.heap.size ≤ gb2220) := ⟨h4_⟩
            have n5_ : Aside0 (gb2221 ≠ gb2220) := ⟨h5_⟩
            have n6_ : Aside0 (gb2220 ≠ gb2221) := ⟨h6_⟩
            have n7_ : Aside0 (w.heap.size ≤ gb2221) := ⟨h7_⟩
            have n8_ : Aside0 (w.heap.size ≤ gb2221) := ⟨h8_⟩
            have n9_ : Aside0 (Below w.heap.size w w14) := ⟨h9_⟩
            clear HO2211
            clear HB
            clear h0_ h1_ h2_ h3_ h4_ h5_ h6_ h7_ h8_ h9_
            have HO2211 := n0_
            have BK2220 := n1_
            have BK2221 := n2_
            have GW2220 := n3_
            have GE2220 := n4_
            have NB2221_2220 := n5_
            have NB2220_2221 := n6_
            have GW2221 := n7_
            have GE2221 := n8_
            have HB := n9_
            clear n0_ n1_ n2_ n3_ n4_ n5_ n6_ n7_ n8_ n9_
            have hHeld : w14.cell? ⟨ad2212.block, ad2212.off + 2, none⟩ = some (.int .i64 ((rd_T26 l0 1).f0)) ∧ w14.cell? ⟨ad2212.block, ad2212.off + 2 + 1, none⟩ = some (.int .i64 ((rd_T26 l0 1).f1)) ∧ w14.cell? ad2212 = some (.int .i64 ((rd_T26 l0 0).f0)) ∧ w14.cell? ⟨ad2212.block, ad2212.off + 1, none⟩ = some (.int .i64 ((rd_T26 l0 0).f1)) ∧ w14.cell? ⟨ad2212.block, ad2212.off + 4, none⟩ = some (.int .i64 ((rd_T26 l0 2).f0)) ∧ w14.cell? ⟨ad2212.block, ad2212.off + 4 + 1, none⟩ = some (.int .i64 ((rd_T26 l0 2).f1)) ∧ w14.cell? ad2212 = some (.int .i64 ((rd_T26 l0 0).f0)) ∧ w14.cell? ⟨ad2212.block, ad2212.off + 1, none⟩ = some (.int .i64 ((rd_T26 l0 0).f1)) := hS_
            refine norm_ (a' := ?_) ?_ ?_
            rotate_left
            ·simp only [putAll, Act.put, List.setIfInBounds_toArray, List.set_cons_zero, List.set_cons_succ]
             rfl
            refine one_ (i := 6) (N := some 21) (zl 18 57343) rfl rfl (one_of HT_.out (by kernel_rfl)) (by decide) (fun K hK => ?_)
            refine goes_ Try.func202 (by kernel_rfl) rfl #[.agg #[.int .i64 ((rd_T26 l0 1).f0), .int .i64 ((rd_T26 l0 1).f1)], .agg #[.int .i64 ((rd_T26 l0 0).f0), .int .i64 ((rd_T26 l0 0).f1)]] (by rfl) rfl rfl zn ?_
            with_reducible refine (impl_Peg_less.calls ((rd_T26 l0 1).f0) ((rd_T26 l0 1).f1) ((rd_T26 l0 0).f0) ((rd_T26 l0 0).f1) t2214 t2215 _ A5.out).mono ?_
            rintro e w15 ⟨rfl, hb⟩
            refine ⟨_, rfl, ?_⟩
            have n0_ := Aside0.mk (Kd.R_below (by (with_reducible repeat (first | apply Kd.R_alloc | apply Kd.R_drewN | apply Kd.R_drew)); exact HO2211.out) hb)
            have n1_ := Aside0.mk (blk_below (g := gb2220) (o := .cells #[.int .i64 0, .int .i64 0] 26 (0, 0)) zk hb)
            have n2_ := Aside0.mk (blk_below (g := gb2221) (o := .cells #[.int .i64 0, .int .i64 0] 26 (0, 0)) zk hb)
            have n3_ := Aside0.mk (below_step zb hb)
            clear HO2211
            clear BK2220
            clear BK2221
            clear HB
            have HO2211 := n0_
            have BK2220 := n1_
            have BK2221 := n2_
            have HB := n3_
            clear n0_ n1_ n2_ n3_
            (try clear hb)
            (try clear hb2)
            (try clear hk)
            (try clear hi)
            refine hK.out _ _ ⟨(zc HB hw2212_0), (zc HB hw2212_1), (zc HB hw2213_0), (zc HB hw2213_1), (zc HB hw2216_0), (zc HB hw2216_1), (zc HB hw2217_0), (zc HB hw2217_1)⟩ (fun hHeld => ?_)
            clear hK K
            refine norm_ (a' := ?_) ?_ ?_
            rotate_left
            ·show Act.put _ (some 21) _ = _
             exact zs
            exact norm_ (by first | (simp only [putAll, Act.put, List.setIfInBounds_toArray, List.set_cons_zero, List.set_cons_succ]; done) | (simp only [putAll, Act.put, List.setIfInBounds_toArray, List.set_cons_zero, List.set_cons_succ]; rfl)) (hJ6_14_15 (gb2220, gb2221) _ ⟨hHeld, (by (with_reducible repeat (first | apply Kd.R_alloc | apply Kd.R_drewN | apply Kd.R_drew)); exact HO2211.out), zk, zk, GW2220.out, GE2220.out, NB2221_2220.out, NB2220_2221.out, GW2221.out, GE2221.out, zb⟩)
          ·skip
           rintro gb2221 w14 ⟨hS_, h0_, h1_, h2_, h3_, h4_⟩
           have n0_ : Aside0 (Kd.R k26 26 w14 w.heap.size (fun k_ => k_ ≠ gb2221) v2210 y2209) := ⟨h0_⟩
           have n1_ : Aside0 (w14.heap[gb2221]? = some (.cells #[.int .i64 0, .int .i64 0] 26 (0, 0))) := ⟨h1_⟩
           have n2_ : Aside0 (w.heap.size ≤ gb2221) := ⟨h2_⟩
           have n3_ : Aside0 (w.heap.size ≤ gb2221) := ⟨h3_⟩
           have n4_ : Aside0 (Below w.heap.size w w14) := ⟨h4_⟩
           clear HO2211
           clear HB
           clear h0_ h1_ h2_ h3_ h4_
           have HO2211 := n0_
           have BK2221 := n1_
           have GW2221 := n2_
           have GE2221 := n3_
           have HB := n4_
           clear n0_ n1_ n2_ n3_ n4_
           have hHeld : w14.cell? ⟨ad2212.block, ad2212.off + 2, none⟩ = some (.int .i64 ((rd_T26 l0 1).f0)) ∧ w14.cell? ⟨ad2212.block, ad2212.off + 2 + 1, none⟩ = some (.int .i64 ((rd_T26 l0 1).f1)) ∧ w14.cell? ad2212 = some (.int .i64 ((rd_T26 l0 0).f0)) ∧ w14.cell? ⟨ad2212.block, ad2212.off + 1, none⟩ = some (.int .i64 ((rd_T26 l0 0).f1)) ∧ w14.cell? ⟨ad2212.block, ad2212.off + 4, none⟩ = some (.int .i64 ((rd_T26 l0 2).f0)) ∧ w14.cell? ⟨ad2212.block, ad2212.off + 4 + 1, none⟩ = some (.int .i64 ((rd_T26 l0 2).f1)) ∧ w14.cell? ad2212 = some (.int .i64 ((rd_T26 l0 0).f0)) ∧ w14.cell? ⟨ad2212.block, ad2212.off + 1, none⟩ = some (.int .i64 ((rd_T26 l0 0).f1)) := hS_
           refine norm_ (a' := ?_) ?_ ?_
           rotate_left
           ·simp only [putAll, Act.put, List.setIfInBounds_toArray, List.set_cons_zero, List.set_cons_succ]
            rfl
           refine two_ (i := 13) (j := 14) (Ni := some 28) (Nj := some 6) (zl 18 49151) (zl 18 57343) rfl rfl rfl rfl (two_of HT_.out (by kernel_rfl)) (by decide) (by decide) (fun K hK => ?_) (fun K hK => ?_)
           ·skip
            refine goes_ Try.func202 (by kernel_rfl) rfl #[.agg #[.int .i64 ((rd_T26 l0 2).f0), .int .i64 ((rd_T26 l0 2).f1)], .agg #[.int .i64 ((rd_T26 l0 0).f0), .int .i64 ((rd_T26 l0 0).f1)]] (by rfl) rfl rfl zn ?_
            with_reducible refine (impl_Peg_less.calls ((rd_T26 l0 2).f0) ((rd_T26 l0 2).f1) ((rd_T26 l0 0).f0) ((rd_T26 l0 0).f1) t2218 t2219 _ A7.out).mono ?_
            rintro e w15 ⟨rfl, hb⟩
            refine ⟨_, rfl, ?_⟩
            have n0_ := Aside0.mk (Kd.R_below (by (with_reducible repeat (first | apply Kd.R_alloc | apply Kd.R_drewN | apply Kd.R_drew)); exact HO2211.out) hb)
            have n1_ := Aside0.mk (blk_below (g := gb2221) (o := .cells #[.int .i64 0, .int .i64 0] 26 (0, 0)) zk hb)
            have n2_ := Aside0.mk (below_step zb hb)
            clear HO2211
            clear BK2221
            clear HB
            have HO2211 := n0_
            have BK2221 := n1_
            have HB := n2_
            clear n0_ n1_ n2_
            (try clear hb)
            (try clear hb2)
            (try clear hk)
            (try clear hi)
            refine hK.out _ _ ⟨(zc HB hw2212_0), (zc HB hw2212_1), (zc HB hw2213_0), (zc HB hw2213_1), (zc HB hw2216_0), (zc HB hw2216_1), (zc HB hw2217_0), (zc HB hw2217_1)⟩ (fun hHeld => ?_)
            clear hK K
            refine norm_ (a' := ?_) ?_ ?_
            rotate_left
            ·show Act.put _ (some 28) _ = _
             exact zs
            exact norm_ (by first | (simp only [putAll, Act.put, List.setIfInBounds_toArray, List.set_cons_zero, List.set_cons_succ]; done) | (simp only [putAll, Act.put, List.setIfInBounds_toArray, List.set_cons_zero, List.set_cons_succ]; rfl)) (hJ6_13_15 (gb2221) _ ⟨hHeld, (by (with_reducible repeat (first | apply Kd.R_alloc | apply Kd.R_drewN | apply Kd.R_drew)); exact HO2211.out), zk, GW2221.out, GE2221.out, zb⟩)
           ·skip
            refine box_step ?hg (N := 6) ?hd (cs := #[.int .i64 0, .int .i64 0]) (t := 26) ?hr ?_; (case hd => rfl); (case hg => rfl); (case hr => first | (go_simp; done) | (go_simp; rfl))
            intro gb2220 hg w15 hbox hb
            have n0_ := Aside0.mk (Kd.R_below (Kd.R_elderB (by (with_reducible repeat (first | apply Kd.R_alloc | apply Kd.R_drewN | apply Kd.R_drew)); exact HO2211.out) gb2220 (Nat.le_of_eq hg.symm)) hb)
            have n1_ := Aside0.mk (blk_below (g := gb2221) (o := .cells #[.int .i64 0, .int .i64 0] 26 (0, 0)) zk hb)
            have n2_ := Aside0.mk (below_step zb hb)
            have n3_ := Aside0.mk (hbox)
            have n4_ := Aside0.mk ((by rw [hg]; exact (below_size zb) : w.heap.size ≤ gb2220))
            have n5_ := Aside0.mk ((by rw [hg]; exact (below_size zb) : w.heap.size ≤ gb2220))
            have n6_ := Aside0.mk ((by rw [hg]; exact Nat.ne_of_lt (blk_lt (g := gb2221) (o := .cells #[.int .i64 0, .int .i64 0] 26 (0, 0)) zk) : gb2221 ≠ gb2220))
            have n7_ := Aside0.mk ((by rw [hg]; exact Nat.ne_of_gt (blk_lt (g := gb2221) (o := .cells #[.int .i64 0, .int .i64 0] 26 (0, 0)) zk) : gb2220 ≠ gb2221))
            clear HO2211
            clear BK2221
            clear HB
            have HO2211 := n0_
            have BK2221 := n1_
            have HB := n2_
            have BK2220 := n3_
            have GW2220 := n4_
            have GE2220 := n5_
            have NB2221_2220 := n6_
            have NB2220_2221 := n7_
            clear n0_ n1_ n2_ n3_ n4_ n5_ n6_ n7_
            clear hb hbox hg
            refine hK.out _ _ ⟨(zc HB hw2212_0), (zc HB hw2212_1), (zc HB hw2213_0), (zc HB hw2213_1), (zc HB hw2216_0), (zc HB hw2216_1), (zc HB hw2217_0), (zc HB hw2217_1)⟩ (fun hHeld => ?_)
            clear hK K
            refine norm_ (a' := ?_) ?_ ?_
            rotate_left
            ·show Act.put _ (some 6) _ = _
             exact zs
            exact norm_ (by first | (simp only [putAll, Act.put, List.setIfInBounds_toArray, List.set_cons_zero, List.set_cons_succ]; done) | (simp only [putAll, Act.put, List.setIfInBounds_toArray, List.set_cons_zero, List.set_cons_succ]; rfl)) (hJ6_14_15 (gb2220, gb2221) _ ⟨hHeld, (by (with_reducible repeat (first | apply Kd.R_alloc | apply Kd.R_drewN | apply Kd.R_drew)); exact Kd.R_mono HO2211.out (fun _ hk => ⟨hk.2, hk.1⟩)), zk, zk, GW2220.out, GE2220.out, NB2221_2220.out, NB2220_2221.out, GW2221.out, GE2221.out, zb⟩)
         ·skip
          rintro gb2220 w14 ⟨hS_, h0_, h1_, h2_, h3_, h4_⟩
          have n0_ : Aside0 (Kd.R k26 26 w14 w.heap.size (fun k_ => k_ ≠ gb2220) v2210 y2209) := ⟨h0_⟩
          have n1_ : Aside0 (w14.heap[gb2220]? = some (.cells #[.int .i64 0, .int .i64 0] 26 (0, 0))) := ⟨h1_⟩
          have n2_ : Aside0 (w.heap.size ≤ gb2220) := ⟨h2_⟩
          have n3_ : Aside0 (w.heap.size ≤ gb2220) := ⟨h3_⟩
          have n4_ : Aside0 (Below w.heap.size w w14) := ⟨h4_⟩
          clear HO2211
          clear HB
          clear h0_ h1_ h2_ h3_ h4_
          have HO2211 := n0_
          have BK2220 := n1_
          have GW2220 := n2_
          have GE2220 := n3_
          have HB := n4_
          clear n0_ n1_ n2_ n3_ n4_
          have hHeld : w14.cell? ⟨ad2212.block, ad2212.off + 2, none⟩ = some (.int .i64 ((rd_T26 l0 1).f0)) ∧ w14.cell? ⟨ad2212.block, ad2212.off + 2 + 1, none⟩ = some (.int .i64 ((rd_T26 l0 1).f1)) ∧ w14.cell? ad2212 = some (.int .i64 ((rd_T26 l0 0).f0)) ∧ w14.cell? ⟨ad2212.block, ad2212.off + 1, none⟩ = some (.int .i64 ((rd_T26 l0 0).f1)) ∧ w14.cell? ⟨ad2212.block, ad2212.off + 4, none⟩ = some (.int .i64 ((rd_T26 l0 2).f0)) ∧ w14.cell? ⟨ad2212.block, ad2212.off + 4 + 1, none⟩ = some (.int .i64 ((rd_T26 l0 2).f1)) ∧ w14.cell? ad2212 = some (.int .i64 ((rd_T26 l0 0).f0)) ∧ w14.cell? ⟨ad2212.block, ad2212.off + 1, none⟩ = some (.int .i64 ((rd_T26 l0 0).f1)) := hS_
          refine norm_ (a' := ?_) ?_ ?_
          rotate_left
          ·simp only [putAll, Act.put, List.setIfInBounds_toArray, List.set_cons_zero, List.set_cons_succ]
           rfl
          refine two_ (i := 13) (j := 15) (Ni := some 28) (Nj := some 7) (zl 18 32767) (zl 18 57343) rfl rfl rfl rfl (two_of HT_.out (by kernel_rfl)) (by decide) (by decide) (fun K hK => ?_) (fun K hK => ?_)
          ·skip
           refine goes_ Try.func202 (by kernel_rfl) rfl #[.agg #[.int .i64 ((rd_T26 l0 2).f0), .int .i64 ((rd_T26 l0 2).f1)], .agg #[.int .i64 ((rd_T26 l0 0).f0), .int .i64 ((rd_T26 l0 0).f1)]] (by rfl) rfl rfl zn ?_
           with_reducible refine (impl_Peg_less.calls ((rd_T26 l0 2).f0) ((rd_T26 l0 2).f1) ((rd_T26 l0 0).f0) ((rd_T26 l0 0).f1) t2218 t2219 _ A7.out).mono ?_
           rintro e w15 ⟨rfl, hb⟩
           refine ⟨_, rfl, ?_⟩
           have n0_ := Aside0.mk (Kd.R_below (by (with_reducible repeat (first | apply Kd.R_alloc | apply Kd.R_drewN | apply Kd.R_drew)); exact HO2211.out) hb)
           have n1_ := Aside0.mk (blk_below (g := gb2220) (o := .cells #[.int .i64 0, .int .i64 0] 26 (0, 0)) zk hb)
           have n2_ := Aside0.mk (below_step zb hb)
           clear HO2211
           clear BK2220
           clear HB
           have HO2211 := n0_
           have BK2220 := n1_
           have HB := n2_
           clear n0_ n1_ n2_
           (try clear hb)
           (try clear hb2)
           (try clear hk)
           (try clear hi)
           refine hK.out _ _ ⟨(zc HB hw2212_0), (zc HB hw2212_1), (zc HB hw2213_0), (zc HB hw2213_1), (zc HB hw2216_0), (zc HB hw2216_1), (zc HB hw2217_0), (zc HB hw2217_1)⟩ (fun hHeld => ?_)
           clear hK K
           refine norm_ (a' := ?_) ?_ ?_
           rotate_left
           ·show Act.put _ (some 28) _ = _
            exact zs
           exact norm_ (by first | (simp only [putAll, Act.put, List.setIfInBounds_toArray, List.set_cons_zero, List.set_cons_succ]; done) | (simp only [putAll, Act.put, List.setIfInBounds_toArray, List.set_cons_zero, List.set_cons_succ]; rfl)) (hJ6_13_14 (gb2220) _ ⟨hHeld, (by (with_reducible repeat (first | apply Kd.R_alloc | apply Kd.R_drewN | apply Kd.R_drew)); exact HO2211.out), zk, GW2220.out, GE2220.out, zb⟩)
          ·skip
           refine box_step ?hg (N := 7) ?hd (cs := #[.int .i64 0, .int .i64 0]) (t := 26) ?hr ?_; (case hd => rfl); (case hg => rfl); (case hr => first | (go_simp; done) | (go_simp; rfl))
           intro gb2221 hg w15 hbox hb
           have n0_ := Aside0.mk (Kd.R_below (Kd.R_elderB (by (with_reducible repeat (first | apply Kd.R_alloc | apply Kd.R_drewN | apply Kd.R_drew)); exact HO2211.out) gb2221 (Nat.le_of_eq hg.symm)) hb)
           have n1_ := Aside0.mk (blk_below (g := gb2220) (o := .cells #[.int .i64 0, .int .i64 0] 26 (0, 0)) zk hb)
           have n2_ := Aside0.mk (below_step zb hb)
           have n3_ := Aside0.mk (hbox)
           have n4_ := Aside0.mk ((by rw [hg]; exact (below_size zb) : w.heap.size ≤ gb2221))
           have n5_ := Aside0.mk ((by rw [hg]; exact (below_size zb) : w.heap.size ≤ gb2221))
           have n6_ := Aside0.mk ((by rw [hg]; exact Nat.ne_of_lt (blk_lt (g := gb2220) (o := .cells #[.int .i64 0, .int .i64 0] 26 (0, 0)) zk) : gb2220 ≠ gb2221))
           have n7_ := Aside0.mk ((by rw [hg]; exact Nat.ne_of_gt (blk_lt (g := gb2220) (o := .cells #[.int .i64 0, .int .i64 0] 26 (0, 0)) zk) : gb2221 ≠ gb2220))
           clear HO2211
           clear BK2220
           clear HB
           have HO2211 := n0_
           have BK2220 := n1_
           have HB := n2_
           have BK2221 := n3_
           have GW2221 := n4_
           have GE2221 := n5_
           have NB2220_2221 := n6_
           have NB2221_2220 := n7_
           clear n0_ n1_ n2_ n3_ n4_ n5_ n6_ n7_
           clear hb hbox hg
           refine hK.out _ _ ⟨(zc HB hw2212_0), (zc HB hw2212_1), (zc HB hw2213_0), (zc HB hw2213_1), (zc HB hw2216_0), (zc HB hw2216_1), (zc HB hw2217_0), (zc HB hw2217_1)⟩ (fun hHeld => ?_)
           clear hK K
           refine norm_ (a' := ?_) ?_ ?_
           rotate_left
           ·show Act.put _ (some 7) _ = _
            exact zs
           exact norm_ (by first | (simp only [putAll, Act.put, List.setIfInBounds_toArray, List.set_cons_zero, List.set_cons_succ]; done) | (simp only [putAll, Act.put, List.setIfInBounds_toArray, List.set_cons_zero, List.set_cons_succ]; rfl)) (hJ6_14_15 (gb2220, gb2221) _ ⟨hHeld, (by (with_reducible repeat (first | apply Kd.R_alloc | apply Kd.R_drewN | apply Kd.R_drew)); exact HO2211.out), zk, zk, GW2220.out, GE2220.out, NB2221_2220.out, NB2220_2221.out, GW2221.out, GE2221.out, zb⟩)
        ·skip
         rintro _ w14 ⟨hS_, h0_, h1_⟩
         have n0_ : Aside0 (Kd.R k26 26 w14 w.heap.size (fun _ => True) v2210 y2209) := ⟨h0_⟩
         have n1_ : Aside0 (Below w.heap.size w w14) := ⟨h1_⟩
         clear HO2211
         clear HB
         clear h0_ h1_
         have HO2211 := n0_
         have HB := n1_
         clear n0_ n1_
         have hHeld : w14.cell? ⟨ad2212.block, ad2212.off + 2, none⟩ = some (.int .i64 ((rd_T26 l0 1).f0)) ∧ w14.cell? ⟨ad2212.block, ad2212.off + 2 + 1, none⟩ = some (.int .i64 ((rd_T26 l0 1).f1)) ∧ w14.cell? ad2212 = some (.int .i64 ((rd_T26 l0 0).f0)) ∧ w14.cell? ⟨ad2212.block, ad2212.off + 1, none⟩ = some (.int .i64 ((rd_T26 l0 0).f1)) ∧ w14.cell? ⟨ad2212.block, ad2212.off + 4, none⟩ = some (.int .i64 ((rd_T26 l0 2).f0)) ∧ w14.cell? ⟨ad2212.block, ad2212.off + 4 + 1, none⟩ = some (.int .i64 ((rd_T26 l0 2).f1)) ∧ w14.cell? ad2212 = some (.int .i64 ((rd_T26 l0 0).f0)) ∧ w14.cell? ⟨ad2212.block, ad2212.off + 1, none⟩ = some (.int .i64 ((rd_T26 l0 0).f1)) := hS_
         refine norm_ (a' := ?_) ?_ ?_
         rotate_left
         ·simp only [putAll, Act.put, List.setIfInBounds_toArray, List.set_cons_zero, List.set_cons_succ]
          rfl
         refine two_ (i := 14) (j := 15) (Ni := some 6) (Nj := some 7) (zl 18 32767) (zl 18 49151) rfl rfl rfl rfl (two_of HT_.out (by kernel_rfl)) (by decide) (by decide) (fun K hK => ?_) (fun K hK => ?_)
         ·skip
          refine box_step ?hg (N := 6) ?hd (cs := #[.int .i64 0, .int .i64 0]) (t := 26) ?hr ?_; (case hd => rfl); (case hg => rfl); (case hr => first | (go_simp; done) | (go_simp; rfl))
          intro gb2220 hg w15 hbox hb
          have n0_ := Aside0.mk (Kd.R_below (Kd.R_elderB (by (with_reducible repeat (first | apply Kd.R_alloc | apply Kd.R_drewN | apply Kd.R_drew)); exact HO2211.out) gb2220 (Nat.le_of_eq hg.symm)) hb)
          have n1_ := Aside0.mk (below_step zb hb)
          have n2_ := Aside0.mk (hbox)
          have n3_ := Aside0.mk ((by rw [hg]; exact (below_size zb) : w.heap.size ≤ gb2220))
          have n4_ := Aside0.mk ((by rw [hg]; exact (below_size zb) : w.heap.size ≤ gb2220))
          clear HO2211
          clear HB
          have HO2211 := n0_
          have HB := n1_
          have BK2220 := n2_
          have GW2220 := n3_
          have GE2220 := n4_
          clear n0_ n1_ n2_ n3_ n4_
          clear hb hbox hg
          refine hK.out _ _ ⟨(zc HB hw2212_0), (zc HB hw2212_1), (zc HB hw2213_0), (zc HB hw2213_1), (zc HB hw2216_0), (zc HB hw2216_1), (zc HB hw2217_0), (zc HB hw2217_1)⟩ (fun hHeld => ?_)
          clear hK K
          refine norm_ (a' := ?_) ?_ ?_
          rotate_left
          ·show Act.put _ (some 6) _ = _
           exact zs
          exact norm_ (by first | (simp only [putAll, Act.put, List.setIfInBounds_toArray, List.set_cons_zero, List.set_cons_succ]; done) | (simp only [putAll, Act.put, List.setIfInBounds_toArray, List.set_cons_zero, List.set_cons_succ]; rfl)) (hJ6_13_14 (gb2220) _ ⟨hHeld, (by (with_reducible repeat (first | apply Kd.R_alloc | apply Kd.R_drewN | apply Kd.R_drew)); exact Kd.R_mono HO2211.out (fun _ hk => hk.2)), zk, GW2220.out, GE2220.out, zb⟩)
         ·skip
          refine box_step ?hg (N := 7) ?hd (cs := #[.int .i64 0, .int .i64 0]) (t := 26) ?hr ?_; (case hd => rfl); (case hg => rfl); (case hr => first | (go_simp; done) | (go_simp; rfl))
          intro gb2221 hg w15 hbox hb
          have n0_ := Aside0.mk (Kd.R_below (Kd.R_elderB (by (with_reducible repeat (first | apply Kd.R_alloc | apply Kd.R_drewN | apply Kd.R_drew)); exact HO2211.out) gb2221 (Nat.le_of_eq hg.symm)) hb)
          have n1_ := Aside0.mk (below_step zb hb)
          have n2_ := Aside0.mk (hbox)
          have n3_ := Aside0.mk ((by rw [hg]; exact (below_size zb) : w.heap.size ≤ gb2221))
          have n4_ := Aside0.mk ((by rw [hg]; exact (below_size zb) : w.heap.size ≤ gb2221))
          clear HO2211
          clear HB
          have HO2211 := n0_
          have HB := n1_
          have BK2221 := n2_
          have GW2221 := n3_
          have GE2221 := n4_
          clear n0_ n1_ n2_ n3_ n4_
          clear hb hbox hg
          refine hK.out _ _ ⟨(zc HB hw2212_0), (zc HB hw2212_1), (zc HB hw2213_0), (zc HB hw2213_1), (zc HB hw2216_0), (zc HB hw2216_1), (zc HB hw2217_0), (zc HB hw2217_1)⟩ (fun hHeld => ?_)
          clear hK K
          refine norm_ (a' := ?_) ?_ ?_
          rotate_left
          ·show Act.put _ (some 7) _ = _
           exact zs
          exact norm_ (by first | (simp only [putAll, Act.put, List.setIfInBounds_toArray, List.set_cons_zero, List.set_cons_succ]; done) | (simp only [putAll, Act.put, List.setIfInBounds_toArray, List.set_cons_zero, List.set_cons_succ]; rfl)) (hJ6_13_15 (gb2221) _ ⟨hHeld, (by (with_reducible repeat (first | apply Kd.R_alloc | apply Kd.R_drewN | apply Kd.R_drew)); exact Kd.R_mono HO2211.out (fun _ hk => hk.2)), zk, GW2221.out, GE2221.out, zb⟩)
       ·skip
        rintro ⟨gb2220, gb2221⟩ w15 ⟨hS_, h0_, h1_, h2_, h3_, h4_, h5_, h6_, h7_, h8_, h9_⟩
        have n0_ : Aside0 (Kd.R k26 26 w15 w.heap.size (fun k_ => k_ ≠ gb2220 ∧ k_ ≠ gb2221) v2210 y2209) := ⟨h0_⟩
        have n1_ : Aside0 (w15.heap[gb2220]? = some (.cells #[.int .i64 0, .int .i64 0] 26 (0, 0))) := ⟨h1_⟩
        have n2_ : Aside0 (w15.heap[gb2221]? = some (.cells #[.int .i64 0, .int .i64 0] 26 (0, 0))) := ⟨h2_⟩
        have n3_ : Aside0 (w.heap.size ≤ gb2220) := ⟨h3_⟩
        have n4_ : Aside0 (w.heap.size ≤ gb2220) := ⟨h4_⟩
        have n5_ : Aside0 (gb2221 ≠ gb2220) := ⟨h5_⟩
        have n6_ : Aside0 (gb2220 ≠ gb2221) := ⟨h6_⟩
        have n7_ : Aside0 (w.heap.size ≤ gb2221) := ⟨h7_⟩
        have n8_ : Aside0 (w.heap.size ≤ gb2221) := ⟨h8_⟩
        have n9_ : Aside0 (Below w.heap.size w w15) := ⟨h9_⟩
        clear HO2211
        clear HB
        clear h0_ h1_ h2_ h3_ h4_ h5_ h6_ h7_ h8_ h9_
        have HO2211 := n0_
        have BK2220 := n1_
        have BK2221 := n2_
        have GW2220 := n3_
        have GE2220 := n4_
        have NB2221_2220 := n5_
        have NB2220_2221 := n6_
        have GW2221 := n7_
        have GE2221 := n8_
        have HB := n9_
        clear n0_ n1_ n2_ n3_ n4_ n5_ n6_ n7_ n8_ n9_
        have hHeld : w15.cell? ⟨ad2212.block, ad2212.off + 2, none⟩ = some (.int .i64 ((rd_T26 l0 1).f0)) ∧ w15.cell? ⟨ad2212.block, ad2212.off + 2 + 1, none⟩ = some (.int .i64 ((rd_T26 l0 1).f1)) ∧ w15.cell? ad2212 = some (.int .i64 ((rd_T26 l0 0).f0)) ∧ w15.cell? ⟨ad2212.block, ad2212.off + 1, none⟩ = some (.int .i64 ((rd_T26 l0 0).f1)) ∧ w15.cell? ⟨ad2212.block, ad2212.off + 4, none⟩ = some (.int .i64 ((rd_T26 l0 2).f0)) ∧ w15.cell? ⟨ad2212.block, ad2212.off + 4 + 1, none⟩ = some (.int .i64 ((rd_T26 l0 2).f1)) ∧ w15.cell? ad2212 = some (.int .i64 ((rd_T26 l0 0).f0)) ∧ w15.cell? ⟨ad2212.block, ad2212.off + 1, none⟩ = some (.int .i64 ((rd_T26 l0 0).f1)) := hS_
        refine norm_ (a' := ?_) ?_ ?_
        rotate_left
        ·simp only [putAll, Act.put, List.setIfInBounds_toArray, List.set_cons_zero, List.set_cons_succ]
         rfl
        refine one_ (i := 13) (N := some 28) (zl 18 65535) rfl rfl (one_of HT_.out (by kernel_rfl)) (by decide) (fun K hK => ?_)
        refine goes_ Try.func202 (by kernel_rfl) rfl #[.agg #[.int .i64 ((rd_T26 l0 2).f0), .int .i64 ((rd_T26 l0 2).f1)], .agg #[.int .i64 ((rd_T26 l0 0).f0), .int .i64 ((rd_T26 l0 0).f1)]] (by rfl) rfl rfl zn ?_
        with_reducible refine (impl_Peg_less.calls ((rd_T26 l0 2).f0) ((rd_T26 l0 2).f1) ((rd_T26 l0 0).f0) ((rd_T26 l0 0).f1) t2218 t2219 _ A7.out).mono ?_
        rintro e w16 ⟨rfl, hb⟩
        refine ⟨_, rfl, ?_⟩
        have n0_ := Aside0.mk (Kd.R_below (by (with_reducible repeat (first | apply Kd.R_alloc | apply Kd.R_drewN | apply Kd.R_drew)); exact HO2211.out) hb)
        have n1_ := Aside0.mk (blk_below (g := gb2220) (o := .cells #[.int .i64 0, .int .i64 0] 26 (0, 0)) zk hb)
        have n2_ := Aside0.mk (blk_below (g := gb2221) (o := .cells #[.int .i64 0, .int .i64 0] 26 (0, 0)) zk hb)
        have n3_ := Aside0.mk (below_step zb hb)
        clear HO2211
        clear BK2220
        clear BK2221
        clear HB
        have HO2211 := n0_
        have BK2220 := n1_
        have BK2221 := n2_
        have HB := n3_
        clear n0_ n1_ n2_ n3_
        (try clear hb)
        (try clear hb2)
        (try clear hk)
        (try clear hi)
        refine hK.out _ _ ⟨(zc HB hw2212_0), (zc HB hw2212_1), (zc HB hw2213_0), (zc HB hw2213_1), (zc HB hw2216_0), (zc HB hw2216_1), (zc HB hw2217_0), (zc HB hw2217_1)⟩ (fun hHeld => ?_)
        clear hK K
        refine norm_ (a' := ?_) ?_ ?_
        rotate_left
        ·show Act.put _ (some 28) _ = _
         exact zs
        exact norm_ (by first | (simp only [putAll, Act.put, List.setIfInBounds_toArray, List.set_cons_zero, List.set_cons_succ]; done) | (simp only [putAll, Act.put, List.setIfInBounds_toArray, List.set_cons_zero, List.set_cons_succ]; rfl)) (hJ6_13_14_15 (gb2220, gb2221) _ ⟨hHeld, (by (with_reducible repeat (first | apply Kd.R_alloc | apply Kd.R_drewN | apply Kd.R_drew)); exact HO2211.out), zk, zk, GW2220.out, GE2220.out, NB2221_2220.out, NB2220_2221.out, GW2221.out, GE2221.out, zb⟩)
      ·skip
       rintro gb2221 w15 ⟨hS_, h0_, h1_, h2_, h3_, h4_⟩
       have n0_ : Aside0 (Kd.R k26 26 w15 w.heap.size (fun k_ => k_ ≠ gb2221) v2210 y2209) := ⟨h0_⟩
       have n1_ : Aside0 (w15.heap[gb2221]? = some (.cells #[.int .i64 0, .int .i64 0] 26 (0, 0))) := ⟨h1_⟩
       have n2_ : Aside0 (w.heap.size ≤ gb2221) := ⟨h2_⟩
       have n3_ : Aside0 (w.heap.size ≤ gb2221) := ⟨h3_⟩
       have n4_ : Aside0 (Below w.heap.size w w15) := ⟨h4_⟩
       clear HO2211
       clear HB
       clear h0_ h1_ h2_ h3_ h4_
       have HO2211 := n0_
       have BK2221 := n1_
       have GW2221 := n2_
       have GE2221 := n3_
       have HB := n4_
       clear n0_ n1_ n2_ n3_ n4_
       have hHeld : w15.cell? ⟨ad2212.block, ad2212.off + 2, none⟩ = some (.int .i64 ((rd_T26 l0 1).f0)) ∧ w15.cell? ⟨ad2212.block, ad2212.off + 2 + 1, none⟩ = some (.int .i64 ((rd_T26 l0 1).f1)) ∧ w15.cell? ad2212 = some (.int .i64 ((rd_T26 l0 0).f0)) ∧ w15.cell? ⟨ad2212.block, ad2212.off + 1, none⟩ = some (.int .i64 ((rd_T26 l0 0).f1)) ∧ w15.cell? ⟨ad2212.block, ad2212.off + 4, none⟩ = some (.int .i64 ((rd_T26 l0 2).f0)) ∧ w15.cell? ⟨ad2212.block, ad2212.off + 4 + 1, none⟩ = some (.int .i64 ((rd_T26 l0 2).f1)) ∧ w15.cell? ad2212 = some (.int .i64 ((rd_T26 l0 0).f0)) ∧ w15.cell? ⟨ad2212.block, ad2212.off + 1, none⟩ = some (.int .i64 ((rd_T26 l0 0).f1)) := hS_
       refine norm_ (a' := ?_) ?_ ?_
       rotate_left
       ·simp only [putAll, Act.put, List.setIfInBounds_toArray, List.set_cons_zero, List.set_cons_succ]
        rfl
       refine one_ (i := 14) (N := some 6) (zl 18 65535) rfl rfl (one_of HT_.out (by kernel_rfl)) (by decide) (fun K hK => ?_)
       refine box_step ?hg (N := 6) ?hd (cs := #[.int .i64 0, .int .i64 0]) (t := 26) ?hr ?_; (case hd => rfl); (case hg => rfl); (case hr => first | (go_simp; done) | (go_simp; rfl))
       intro gb2220 hg w16 hbox hb
       have n0_ := Aside0.mk (Kd.R_below (Kd.R_elderB (by (with_reducible repeat (first | apply Kd.R_alloc | apply Kd.R_drewN | apply Kd.R_drew)); exact HO2211.out) gb2220 (Nat.le_of_eq hg.symm)) hb)
       have n1_ := Aside0.mk (blk_below (g := gb2221) (o := .cells #[.int .i64 0, .int .i64 0] 26 (0, 0)) zk hb)
       have n2_ := Aside0.mk (below_step zb hb)
       have n3_ := Aside0.mk (hbox)
       have n4_ := Aside0.mk ((by rw [hg]; exact (below_size zb) : w.heap.size ≤ gb2220))
       have n5_ := Aside0.mk ((by rw [hg]; exact (below_size zb) : w.heap.size ≤ gb2220))
       have n6_ := Aside0.mk ((by rw [hg]; exact Nat.ne_of_lt (blk_lt (g := gb2221) (o := .cells #[.int .i64 0, .int .i64 0] 26 (0, 0)) zk) : gb2221 ≠ gb2220))
       have n7_ := Aside0.mk ((by rw [hg]; exact Nat.ne_of_gt (blk_lt (g := gb2221) (o := .cells #[.int .i64 0, .int .i64 0] 26 (0, 0)) zk) : gb2220 ≠ gb2221))
       clear HO2211
       clear BK2221
       clear HB
       have HO2211 := n0_
       have BK2221 := n1_
       have HB := n2_
       have BK2220 := n3_
       have GW2220 := n4_
       have GE2220 := n5_
       have NB2221_2220 := n6_
       have NB2220_2221 := n7_
       clear n0_ n1_ n2_ n3_ n4_ n5_ n6_ n7_
       clear hb hbox hg
       refine hK.out _ _ ⟨(zc HB hw2212_0), (zc HB hw2212_1), (zc HB hw2213_0), (zc HB hw2213_1), (zc HB hw2216_0), (zc HB hw2216_1), (zc HB hw2217_0), (zc HB hw2217_1)⟩ (fun hHeld => ?_)
       clear hK K
       refine norm_ (a' := ?_) ?_ ?_
       rotate_left
       ·show Act.put _ (some 6) _ = _
        exact zs
       exact norm_ (by first | (simp only [putAll, Act.put, List.setIfInBounds_toArray, List.set_cons_zero, List.set_cons_succ]; done) | (simp only [putAll, Act.put, List.setIfInBounds_toArray, List.set_cons_zero, List.set_cons_succ]; rfl)) (hJ6_13_14_15 (gb2220, gb2221) _ ⟨hHeld, (by (with_reducible repeat (first | apply Kd.R_alloc | apply Kd.R_drewN | apply Kd.R_drew)); exact Kd.R_mono HO2211.out (fun _ hk => ⟨hk.2, hk.1⟩)), zk, zk, GW2220.out, GE2220.out, NB2221_2220.out, NB2220_2221.out, GW2221.out, GE2221.out, zb⟩)
     ·skip
      rintro gb2220 w15 ⟨hS_, h0_, h1_, h2_, h3_, h4_⟩
      have n0_ : Aside0 (Kd.R k26 26 w15 w.heap.size (fun k_ => k_ ≠ gb2220) v2210 y2209) := ⟨h0_⟩
      have n1_ : Aside0 (w15.heap[gb2220]? = some (.cells #[.int .i64 0, .int .i64 0] 26 (0, 0))) := ⟨h1_⟩
      have n2_ : Aside0 (w.heap.size ≤ gb2220) := ⟨h2_⟩
      have n3_ : Aside0 (w.heap.size ≤ gb2220) := ⟨h3_⟩
      have n4_ : Aside0 (Below w.heap.size w w15) := ⟨h4_⟩
      clear HO2211
      clear HB
      clear h0_ h1_ h2_ h3_ h4_
      have HO2211 := n0_
      have BK2220 := n1_
      have GW2220 := n2_
      have GE2220 := n3_
      have HB := n4_
      clear n0_ n1_ n2_ n3_ n4_
      have hHeld : w15.cell? ⟨ad2212.block, ad2212.off + 2, none⟩ = some (.int .i64 ((rd_T26 l0 1).f0)) ∧ w15.cell? ⟨ad2212.block, ad2212.off + 2 + 1, none⟩ = some (.int .i64 ((rd_T26 l0 1).f1)) ∧ w15.cell? ad2212 = some (.int .i64 ((rd_T26 l0 0).f0)) ∧ w15.cell? ⟨ad2212.block, ad2212.off + 1, none⟩ = some (.int .i64 ((rd_T26 l0 0).f1)) ∧ w15.cell? ⟨ad2212.block, ad2212.off + 4, none⟩ = some (.int .i64 ((rd_T26 l0 2).f0)) ∧ w15.cell? ⟨ad2212.block, ad2212.off + 4 + 1, none⟩ = some (.int .i64 ((rd_T26 l0 2).f1)) ∧ w15.cell? ad2212 = some (.int .i64 ((rd_T26 l0 0).f0)) ∧ w15.cell? ⟨ad2212.block, ad2212.off + 1, none⟩ = some (.int .i64 ((rd_T26 l0 0).f1)) := hS_
      refine norm_ (a' := ?_) ?_ ?_
      rotate_left
      ·simp only [putAll, Act.put, List.setIfInBounds_toArray, List.set_cons_zero, List.set_cons_succ]
       rfl
      refine one_ (i := 15) (N := some 7) (zl 18 65535) rfl rfl (one_of HT_.out (by kernel_rfl)) (by decide) (fun K hK => ?_)
      refine box_step ?hg (N := 7) ?hd (cs := #[.int .i64 0, .int .i64 0]) (t := 26) ?hr ?_; (case hd => rfl); (case hg => rfl); (case hr => first | (go_simp; done) | (go_simp; rfl))
      intro gb2221 hg w16 hbox hb
      have n0_ := Aside0.mk (Kd.R_below (Kd.R_elderB (by (with_reducible repeat (first | apply Kd.R_alloc | apply Kd.R_drewN | apply Kd.R_drew)); exact HO2211.out) gb2221 (Nat.le_of_eq hg.symm)) hb)
      have n1_ := Aside0.mk (blk_below (g := gb2220) (o := .cells #[.int .i64 0, .int .i64 0] 26 (0, 0)) zk hb)
      have n2_ := Aside0.mk (below_step zb hb)
      have n3_ := Aside0.mk (hbox)
      have n4_ := Aside0.mk ((by rw [hg]; exact (below_size zb) : w.heap.size ≤ gb2221))
      have n5_ := Aside0.mk ((by rw [hg]; exact (below_size zb) : w.heap.size ≤ gb2221))
      have n6_ := Aside0.mk ((by rw [hg]; exact Nat.ne_of_lt (blk_lt (g := gb2220) (o := .cells #[.int .i64 0, .int .i64 0] 26 (0, 0)) zk) : gb2220 ≠ gb2221))
      have n7_ := Aside0.mk ((by rw [hg]; exact Nat.ne_of_gt (blk_lt (g := gb2220) (o := .cells #[.int .i64 0, .int .i64 0] 26 (0, 0)) zk) : gb2221 ≠ gb2220))
      clear HO2211
      clear BK2220
      clear HB
      have HO2211 := n0_
      have BK2220 := n1_
      have HB := n2_
      have BK2221 := n3_
      have GW2221 := n4_
      have GE2221 := n5_
      have NB2220_2221 := n6_
      have NB2221_2220 := n7_
      clear n0_ n1_ n2_ n3_ n4_ n5_ n6_ n7_
      clear hb hbox hg
      refine hK.out _ _ ⟨(zc HB hw2212_0), (zc HB hw2212_1), (zc HB hw2213_0), (zc HB hw2213_1), (zc HB hw2216_0), (zc HB hw2216_1), (zc HB hw2217_0), (zc HB hw2217_1)⟩ (fun hHeld => ?_)
      clear hK K
      refine norm_ (a' := ?_) ?_ ?_
      rotate_left
      ·show Act.put _ (some 7) _ = _
       exact zs
      exact norm_ (by first | (simp only [putAll, Act.put, List.setIfInBounds_toArray, List.set_cons_zero, List.set_cons_succ]; done) | (simp only [putAll, Act.put, List.setIfInBounds_toArray, List.set_cons_zero, List.set_cons_succ]; rfl)) (hJ6_13_14_15 (gb2220, gb2221) _ ⟨hHeld, (by (with_reducible repeat (first | apply Kd.R_alloc | apply Kd.R_drewN | apply Kd.R_drew)); exact HO2211.out), zk, zk, GW2220.out, GE2220.out, NB2221_2220.out, NB2220_2221.out, GW2221.out, GE2221.out, zb⟩)
    rintro ⟨gb2220, gb2221⟩ w16 ⟨hS_, h0_, h1_, h2_, h3_, h4_, h5_, h6_, h7_, h8_, h9_⟩
    have n0_ : Aside0 (Kd.R k26 26 w16 w.heap.size (fun k_ => k_ ≠ gb2220 ∧ k_ ≠ gb2221) v2210 y2209) := ⟨h0_⟩
    have n1_ : Aside0 (w16.heap[gb2220]? = some (.cells #[.int .i64 0, .int .i64 0] 26 (0, 0))) := ⟨h1_⟩
    have n2_ : Aside0 (w16.heap[gb2221]? = some (.cells #[.int .i64 0, .int .i64 0] 26 (0, 0))) := ⟨h2_⟩
    have n3_ : Aside0 (w.heap.size ≤ gb2220) := ⟨h3_⟩
    have n4_ : Aside0 (w.heap.size ≤ gb2220) := ⟨h4_⟩
    have n5_ : Aside0 (gb2221 ≠ gb2220) := ⟨h5_⟩
    have n6_ : Aside0 (gb2220 ≠ gb2221) := ⟨h6_⟩
    have n7_ : Aside0 (w.heap.size ≤ gb2221) := ⟨h7_⟩
    have n8_ : Aside0 (w.heap.size ≤ gb2221) := ⟨h8_⟩
    have n9_ : Aside0 (Below w.heap.size w w16) := ⟨h9_⟩
    clear HO2211
    clear HB
    clear h0_ h1_ h2_ h3_ h4_ h5_ h6_ h7_ h8_ h9_
    have HO2211 := n0_
    have BK2220 := n1_
    have BK2221 := n2_
    have GW2220 := n3_
    have GE2220 := n4_
    have NB2221_2220 := n5_
    have NB2220_2221 := n6_
    have GW2221 := n7_
    have GE2221 := n8_
    have HB := n9_
    clear n0_ n1_ n2_ n3_ n4_ n5_ n6_ n7_ n8_ n9_
    have hHeld : w16.cell? ⟨ad2212.block, ad2212.off + 2, none⟩ = some (.int .i64 ((rd_T26 l0 1).f0)) ∧ w16.cell? ⟨ad2212.block, ad2212.off + 2 + 1, none⟩ = some (.int .i64 ((rd_T26 l0 1).f1)) ∧ w16.cell? ad2212 = some (.int .i64 ((rd_T26 l0 0).f0)) ∧ w16.cell? ⟨ad2212.block, ad2212.off + 1, none⟩ = some (.int .i64 ((rd_T26 l0 0).f1)) ∧ w16.cell? ⟨ad2212.block, ad2212.off + 4, none⟩ = some (.int .i64 ((rd_T26 l0 2).f0)) ∧ w16.cell? ⟨ad2212.block, ad2212.off + 4 + 1, none⟩ = some (.int .i64 ((rd_T26 l0 2).f1)) ∧ w16.cell? ad2212 = some (.int .i64 ((rd_T26 l0 0).f0)) ∧ w16.cell? ⟨ad2212.block, ad2212.off + 1, none⟩ = some (.int .i64 ((rd_T26 l0 0).f1)) := hS_
    refine norm_ (a' := ?_) ?_ ?_
    rotate_left
    ·simp only [putAll, Act.put, List.setIfInBounds_toArray, List.set_cons_zero, List.set_cons_succ]
     rfl
    refine one_ (i := 16) (N := none) (zl 18 131071) rfl rfl (one_of HT_.out (by kernel_rfl)) (by decide) (fun K hK => ?_)
    have hs17 : w16.cell? ⟨gb2220, 0, none⟩ = some (.int .i64 0) := (blk_cell BK2220.out 0).trans rfl
    have hfs17 := blk_frozen BK2220.out 0
    have hns17_1 := NB2221_2220.out
    have hms17_1 := NB2220_2221.out
    have hs18 : w16.cell? ⟨gb2220, 1, none⟩ = some (.int .i64 0) := (blk_cell BK2220.out 1).trans rfl
    have hfs18 := blk_frozen BK2220.out 1
    have hns18_1 := NB2221_2220.out
    have hms18_1 := NB2220_2221.out
    refine skip_ (w1 := ?_) (by rfl) rfl ?_ ?_
    rotate_left
    ·go_simp
     rfl
    refine hK.out _ _ ⟨((cell_far (p := ⟨gb2220, _, none⟩) (by first | exact Nat.ne_of_lt (Nat.lt_of_lt_of_le (by have := World.block_lt_of_cell? _ _ hw2212_0; first | rwa [add_block] at this | exact this) GW2220.out) | (rw [add_block]; exact Nat.ne_of_lt (Nat.lt_of_lt_of_le (by have := World.block_lt_of_cell? _ _ hw2212_0; first | rwa [add_block] at this | exact this) GW2220.out)) | (show (Addr.add _ _).block ≠ _; rw [add_block]; exact Nat.ne_of_lt (Nat.lt_of_lt_of_le (by have := World.block_lt_of_cell? _ _ hw2212_0; first | rwa [add_block] at this | exact this) GW2220.out)) | (dsimp only; exact Nat.ne_of_lt (Nat.lt_of_lt_of_le (by have := World.block_lt_of_cell? _ _ hw2212_0; first | rwa [add_block] at this | exact this) GW2220.out))) _).trans (((cell_far (p := ⟨gb2220, _, none⟩) (by first | exact Nat.ne_of_lt (Nat.lt_of_lt_of_le (by have := World.block_lt_of_cell? _ _ hw2212_0; first | rwa [add_block] at this | exact this) GW2220.out) | (rw [add_block]; exact Nat.ne_of_lt (Nat.lt_of_lt_of_le (by have := World.block_lt_of_cell? _ _ hw2212_0; first | rwa [add_block] at this | exact this) GW2220.out)) | (show (Addr.add _ _).block ≠ _; rw [add_block]; exact Nat.ne_of_lt (Nat.lt_of_lt_of_le (by have := World.block_lt_of_cell? _ _ hw2212_0; first | rwa [add_block] at this | exact this) GW2220.out)) | (dsimp only; exact Nat.ne_of_lt (Nat.lt_of_lt_of_le (by have := World.block_lt_of_cell? _ _ hw2212_0; first | rwa [add_block] at this | exact this) GW2220.out))) _).trans (hHeld.1)))), ((cell_far (p := ⟨gb2220, _, none⟩) (by first | exact Nat.ne_of_lt (Nat.lt_of_lt_of_le (by have := World.block_lt_of_cell? _ _ hw2212_1; first | rwa [add_block] at this | exact this) GW2220.out) | (rw [add_block]; exact Nat.ne_of_lt (Nat.lt_of_lt_of_le (by have := World.block_lt_of_cell? _ _ hw2212_1; first | rwa [add_block] at this | exact this) GW2220.out)) | (show (Addr.add _ _).block ≠ _; rw [add_block]; exact Nat.ne_of_lt (Nat.lt_of_lt_of_le (by have := World.block_lt_of_cell? _ _ hw2212_1; first | rwa [add_block] at this | exact this) GW2220.out)) | (dsimp only; exact Nat.ne_of_lt (Nat.lt_of_lt_of_le (by have := World.block_lt_of_cell? _ _ hw2212_1; first | rwa [add_block] at this | exact this) GW2220.out))) _).trans (((cell_far (p := ⟨gb2220, _, none⟩) (by first | exact Nat.ne_of_lt (Nat.lt_of_lt_of_le (by have := World.block_lt_of_cell? _ _ hw2212_1; first | rwa [add_block] at this | exact this) GW2220.out) | (rw [add_block]; exact Nat.ne_of_lt (Nat.lt_of_lt_of_le (by have := World.block_lt_of_cell? _ _ hw2212_1; first | rwa [add_block] at this | exact this) GW2220.out)) | (show (Addr.add _ _).block ≠ _; rw [add_block]; exact Nat.ne_of_lt (Nat.lt_of_lt_of_le (by have := World.block_lt_of_cell? _ _ hw2212_1; first | rwa [add_block] at this | exact this) GW2220.out)) | (dsimp only; exact Nat.ne_of_lt (Nat.lt_of_lt_of_le (by have := World.block_lt_of_cell? _ _ hw2212_1; first | rwa [add_block] at this | exact this) GW2220.out))) _).trans (hHeld.2.1)))), ((cell_far (p := ⟨gb2220, _, none⟩) (by first | exact Nat.ne_of_lt (Nat.lt_of_lt_of_le (by have := World.block_lt_of_cell? _ _ hw2213_0; first | rwa [add_block] at this | exact this) GW2220.out) | (rw [add_block]; exact Nat.ne_of_lt (Nat.lt_of_lt_of_le (by have := World.block_lt_of_cell? _ _ hw2213_0; first | rwa [add_block] at this | exact this) GW2220.out)) | (show (Addr.add _ _).block ≠ _; rw [add_block]; exact Nat.ne_of_lt (Nat.lt_of_lt_of_le (by have := World.block_lt_of_cell? _ _ hw2213_0; first | rwa [add_block] at this | exact this) GW2220.out)) | (dsimp only; exact Nat.ne_of_lt (Nat.lt_of_lt_of_le (by have := World.block_lt_of_cell? _ _ hw2213_0; first | rwa [add_block] at this | exact this) GW2220.out))) _).trans (((cell_far (p := ⟨gb2220, _, none⟩) (by first | exact Nat.ne_of_lt (Nat.lt_of_lt_of_le (by have := World.block_lt_of_cell? _ _ hw2213_0; first | rwa [add_block] at this | exact this) GW2220.out) | (rw [add_block]; exact Nat.ne_of_lt (Nat.lt_of_lt_of_le (by have := World.block_lt_of_cell? _ _ hw2213_0; first | rwa [add_block] at this | exact this) GW2220.out)) | (show (Addr.add _ _).block ≠ _; rw [add_block]; exact Nat.ne_of_lt (Nat.lt_of_lt_of_le (by have := World.block_lt_of_cell? _ _ hw2213_0; first | rwa [add_block] at this | exact this) GW2220.out)) | (dsimp only; exact Nat.ne_of_lt (Nat.lt_of_lt_of_le (by have := World.block_lt_of_cell? _ _ hw2213_0; first | rwa [add_block] at this | exact this) GW2220.out))) _).trans (hHeld.2.2.1)))), ((cell_far (p := ⟨gb2220, _, none⟩) (by first | exact Nat.ne_of_lt (Nat.lt_of_lt_of_le (by have := World.block_lt_of_cell? _ _ hw2213_1; first | rwa [add_block] at this | exact this) GW2220.out) | (rw [add_block]; exact Nat.ne_of_lt (Nat.lt_of_lt_of_le (by have := World.block_lt_of_cell? _ _ hw2213_1; first | rwa [add_block] at this | exact this) GW2220.out)) | (show (Addr.add _ _).block ≠ _; rw [add_block]; exact Nat.ne_of_lt (Nat.lt_of_lt_of_le (by have := World.block_lt_of_cell? _ _ hw2213_1; first | rwa [add_block] at this | exact this) GW2220.out)) | (dsimp only; exact Nat.ne_of_lt (Nat.lt_of_lt_of_le (by have := World.block_lt_of_cell? _ _ hw2213_1; first | rwa [add_block] at this | exact this) GW2220.out))) _).trans (((cell_far (p := ⟨gb2220, _, none⟩) (by first | exact Nat.ne_of_lt (Nat.lt_of_lt_of_le (by have := World.block_lt_of_cell? _ _ hw2213_1; first | rwa [add_block] at this | exact this) GW2220.out) | (rw [add_block]; exact Nat.ne_of_lt (Nat.lt_of_lt_of_le (by have := World.block_lt_of_cell? _ _ hw2213_1; first | rwa [add_block] at this | exact this) GW2220.out)) | (show (Addr.add _ _).block ≠ _; rw [add_block]; exact Nat.ne_of_lt (Nat.lt_of_lt_of_le (by have := World.block_lt_of_cell? _ _ hw2213_1; first | rwa [add_block] at this | exact this) GW2220.out)) | (dsimp only; exact Nat.ne_of_lt (Nat.lt_of_lt_of_le (by have := World.block_lt_of_cell? _ _ hw2213_1; first | rwa [add_block] at this | exact this) GW2220.out))) _).trans (hHeld.2.2.2.1)))), ((cell_far (p := ⟨gb2220, _, none⟩) (by first | exact Nat.ne_of_lt (Nat.lt_of_lt_of_le (by have := World.block_lt_of_cell? _ _ hw2216_0; first | rwa [add_block] at this | exact this) GW2220.out) | (rw [add_block]; exact Nat.ne_of_lt (Nat.lt_of_lt_of_le (by have := World.block_lt_of_cell? _ _ hw2216_0; first | rwa [add_block] at this | exact this) GW2220.out)) | (show (Addr.add _ _).block ≠ _; rw [add_block]; exact Nat.ne_of_lt (Nat.lt_of_lt_of_le (by have := World.block_lt_of_cell? _ _ hw2216_0; first | rwa [add_block] at this | exact this) GW2220.out)) | (dsimp only; exact Nat.ne_of_lt (Nat.lt_of_lt_of_le (by have := World.block_lt_of_cell? _ _ hw2216_0; first | rwa [add_block] at this | exact this) GW2220.out))) _).trans (((cell_far (p := ⟨gb2220, _, none⟩) (by first | exact Nat.ne_of_lt (Nat.lt_of_lt_of_le (by have := World.block_lt_of_cell? _ _ hw2216_0; first | rwa [add_block] at this | exact this) GW2220.out) | (rw [add_block]; exact Nat.ne_of_lt (Nat.lt_of_lt_of_le (by have := World.block_lt_of_cell? _ _ hw2216_0; first | rwa [add_block] at this | exact this) GW2220.out)) | (show (Addr.add _ _).block ≠ _; rw [add_block]; exact Nat.ne_of_lt (Nat.lt_of_lt_of_le (by have := World.block_lt_of_cell? _ _ hw2216_0; first | rwa [add_block] at this | exact this) GW2220.out)) | (dsimp only; exact Nat.ne_of_lt (Nat.lt_of_lt_of_le (by have := World.block_lt_of_cell? _ _ hw2216_0; first | rwa [add_block] at this | exact this) GW2220.out))) _).trans (hHeld.2.2.2.2.1)))), ((cell_far (p := ⟨gb2220, _, none⟩) (by first | exact Nat.ne_of_lt (Nat.lt_of_lt_of_le (by have := World.block_lt_of_cell? _ _ hw2216_1; first | rwa [add_block] at this | exact this) GW2220.out) | (rw [add_block]; exact Nat.ne_of_lt (Nat.lt_of_lt_of_le (by have := World.block_lt_of_cell? _ _ hw2216_1; first | rwa [add_block] at this | exact this) GW2220.out)) | (show (Addr.add _ _).block ≠ _; rw [add_block]; exact Nat.ne_of_lt (Nat.lt_of_lt_of_le (by have := World.block_lt_of_cell? _ _ hw2216_1; first | rwa [add_block] at this | exact this) GW2220.out)) | (dsimp only; exact Nat.ne_of_lt (Nat.lt_of_lt_of_le (by have := World.block_lt_of_cell? _ _ hw2216_1; first | rwa [add_block] at this | exact this) GW2220.out))) _).trans (((cell_far (p := ⟨gb2220, _, none⟩) (by first | exact Nat.ne_of_lt (Nat.lt_of_lt_of_le (by have := World.block_lt_of_cell? _ _ hw2216_1; first | rwa [add_block] at this | exact this) GW2220.out) | (rw [add_block]; exact Nat.ne_of_lt (Nat.lt_of_lt_of_le (by have := World.block_lt_of_cell? _ _ hw2216_1; first | rwa [add_block] at this | exact this) GW2220.out)) | (show (Addr.add _ _).block ≠ _; rw [add_block]; exact Nat.ne_of_lt (Nat.lt_of_lt_of_le (by have := World.block_lt_of_cell? _ _ hw2216_1; first | rwa [add_block] at this | exact this) GW2220.out)) | (dsimp only; exact Nat.ne_of_lt (Nat.lt_of_lt_of_le (by have := World.block_lt_of_cell? _ _ hw2216_1; first | rwa [add_block] at this | exact this) GW2220.out))) _).trans (hHeld.2.2.2.2.2.1)))), ((cell_far (p := ⟨gb2220, _, none⟩) (by first | exact Nat.ne_of_lt (Nat.lt_of_lt_of_le (by have := World.block_lt_of_cell? _ _ hw2217_0; first | rwa [add_block] at this | exact this) GW2220.out) | (rw [add_block]; exact Nat.ne_of_lt (Nat.lt_of_lt_of_le (by have := World.block_lt_of_cell? _ _ hw2217_0; first | rwa [add_block] at this | exact this) GW2220.out)) | (show (Addr.add _ _).block ≠ _; rw [add_block]; exact Nat.ne_of_lt (Nat.lt_of_lt_of_le (by have := World.block_lt_of_cell? _ _ hw2217_0; first | rwa [add_block] at this | exact this) GW2220.out)) | (dsimp only; exact Nat.ne_of_lt (Nat.lt_of_lt_of_le (by have := World.block_lt_of_cell? _ _ hw2217_0; first | rwa [add_block] at this | exact this) GW2220.out))) _).trans (((cell_far (p := ⟨gb2220, _, none⟩) (by first | exact Nat.ne_of_lt (Nat.lt_of_lt_of_le (by have := World.block_lt_of_cell? _ _ hw2217_0; first | rwa [add_block] at this | exact this) GW2220.out) | (rw [add_block]; exact Nat.ne_of_lt (Nat.lt_of_lt_of_le (by have := World.block_lt_of_cell? _ _ hw2217_0; first | rwa [add_block] at this | exact this) GW2220.out)) | (show (Addr.add _ _).block ≠ _; rw [add_block]; exact Nat.ne_of_lt (Nat.lt_of_lt_of_le (by have := World.block_lt_of_cell? _ _ hw2217_0; first | rwa [add_block] at this | exact this) GW2220.out)) | (dsimp only; exact Nat.ne_of_lt (Nat.lt_of_lt_of_le (by have := World.block_lt_of_cell? _ _ hw2217_0; first | rwa [add_block] at this | exact this) GW2220.out))) _).trans (hHeld.2.2.2.2.2.2.1)))), ((cell_far (p := ⟨gb2220, _, none⟩) (by first | exact Nat.ne_of_lt (Nat.lt_of_lt_of_le (by have := World.block_lt_of_cell? _ _ hw2217_1; first | rwa [add_block] at this | exact this) GW2220.out) | (rw [add_block]; exact Nat.ne_of_lt (Nat.lt_of_lt_of_le (by have := World.block_lt_of_cell? _ _ hw2217_1; first | rwa [add_block] at this | exact this) GW2220.out)) | (show (Addr.add _ _).block ≠ _; rw [add_block]; exact Nat.ne_of_lt (Nat.lt_of_lt_of_le (by have := World.block_lt_of_cell? _ _ hw2217_1; first | rwa [add_block] at this | exact this) GW2220.out)) | (dsimp only; exact Nat.ne_of_lt (Nat.lt_of_lt_of_le (by have := World.block_lt_of_cell? _ _ hw2217_1; first | rwa [add_block] at this | exact this) GW2220.out))) _).trans (((cell_far (p := ⟨gb2220, _, none⟩) (by first | exact Nat.ne_of_lt (Nat.lt_of_lt_of_le (by have := World.block_lt_of_cell? _ _ hw2217_1; first | rwa [add_block] at this | exact this) GW2220.out) | (rw [add_block]; exact Nat.ne_of_lt (Nat.lt_of_lt_of_le (by have := World.block_lt_of_cell? _ _ hw2217_1; first | rwa [add_block] at this | exact this) GW2220.out)) | (show (Addr.add _ _).block ≠ _; rw [add_block]; exact Nat.ne_of_lt (Nat.lt_of_lt_of_le (by have := World.block_lt_of_cell? _ _ hw2217_1; first | rwa [add_block] at this | exact this) GW2220.out)) | (dsimp only; exact Nat.ne_of_lt (Nat.lt_of_lt_of_le (by have := World.block_lt_of_cell? _ _ hw2217_1; first | rwa [add_block] at this | exact this) GW2220.out))) _).trans (hHeld.2.2.2.2.2.2.2))))⟩ (fun hHeld => ?_)
    clear hK K
    refine one_ (i := 17) (N := none) (zl 18 262143) rfl rfl (one_of HT_.out (by kernel_rfl)) (by decide) (fun K hK => ?_)
    have hs19 : w16.cell? ⟨gb2221, 0, none⟩ = some (.int .i64 0) := (blk_cell BK2221.out 0).trans rfl
    have hfs19 := blk_frozen BK2221.out 0
    have hns19_0 := NB2220_2221.out
    have hms19_0 := NB2221_2220.out
    have hs20 : w16.cell? ⟨gb2221, 1, none⟩ = some (.int .i64 0) := (blk_cell BK2221.out 1).trans rfl
    have hfs20 := blk_frozen BK2221.out 1
    have hns20_0 := NB2220_2221.out
    have hms20_0 := NB2221_2220.out
    refine skip_ (w1 := ?_) (by rfl) rfl ?_ ?_
    rotate_left
    ·go_simp
     rfl
    refine hK.out _ _ ⟨((cell_far (p := ⟨gb2221, _, none⟩) (by first | exact Nat.ne_of_lt (Nat.lt_of_lt_of_le (by have := World.block_lt_of_cell? _ _ hw2212_0; first | rwa [add_block] at this | exact this) GW2221.out) | (rw [add_block]; exact Nat.ne_of_lt (Nat.lt_of_lt_of_le (by have := World.block_lt_of_cell? _ _ hw2212_0; first | rwa [add_block] at this | exact this) GW2221.out)) | (show (Addr.add _ _).block ≠ _; rw [add_block]; exact Nat.ne_of_lt (Nat.lt_of_lt_of_le (by have := World.block_lt_of_cell? _ _ hw2212_0; first | rwa [add_block] at this | exact this) GW2221.out)) | (dsimp only; exact Nat.ne_of_lt (Nat.lt_of_lt_of_le (by have := World.block_lt_of_cell? _ _ hw2212_0; first | rwa [add_block] at this | exact this) GW2221.out))) _).trans (((cell_far (p := ⟨gb2221, _, none⟩) (by first | exact Nat.ne_of_lt (Nat.lt_of_lt_of_le (by have := World.block_lt_of_cell? _ _ hw2212_0; first | rwa [add_block] at this | exact this) GW2221.out) | (rw [add_block]; exact Nat.ne_of_lt (Nat.lt_of_lt_of_le (by have := World.block_lt_of_cell? _ _ hw2212_0; first | rwa [add_block] at this | exact this) GW2221.out)) | (show (Addr.add _ _).block ≠ _; rw [add_block]; exact Nat.ne_of_lt (Nat.lt_of_lt_of_le (by have := World.block_lt_of_cell? _ _ hw2212_0; first | rwa [add_block] at this | exact this) GW2221.out)) | (dsimp only; exact Nat.ne_of_lt (Nat.lt_of_lt_of_le (by have := World.block_lt_of_cell? _ _ hw2212_0; first | rwa [add_block] at this | exact this) GW2221.out))) _).trans (hHeld.1)))), ((cell_far (p := ⟨gb2221, _, none⟩) (by first | exact Nat.ne_of_lt (Nat.lt_of_lt_of_le (by have := World.block_lt_of_cell? _ _ hw2212_1; first | rwa [add_block] at this | exact this) GW2221.out) | (rw [add_block]; exact Nat.ne_of_lt (Nat.lt_of_lt_of_le (by have := World.block_lt_of_cell? _ _ hw2212_1; first | rwa [add_block] at this | exact this) GW2221.out)) | (show (Addr.add _ _).block ≠ _; rw [add_block]; exact Nat.ne_of_lt (Nat.lt_of_lt_of_le (by have := World.block_lt_of_cell? _ _ hw2212_1; first | rwa [add_block] at this | exact this) GW2221.out)) | (dsimp only; exact Nat.ne_of_lt (Nat.lt_of_lt_of_le (by have := World.block_lt_of_cell? _ _ hw2212_1; first | rwa [add_block] at this | exact this) GW2221.out))) _).trans (((cell_far (p := ⟨gb2221, _, none⟩) (by first | exact Nat.ne_of_lt (Nat.lt_of_lt_of_le (by have := World.block_lt_of_cell? _ _ hw2212_1; first | rwa [add_block] at this | exact this) GW2221.out) | (rw [add_block]; exact Nat.ne_of_lt (Nat.lt_of_lt_of_le (by have := World.block_lt_of_cell? _ _ hw2212_1; first | rwa [add_block] at this | exact this) GW2221.out)) | (show (Addr.add _ _).block ≠ _; rw [add_block]; exact Nat.ne_of_lt (Nat.lt_of_lt_of_le (by have := World.block_lt_of_cell? _ _ hw2212_1; first | rwa [add_block] at this | exact this) GW2221.out)) | (dsimp only; exact Nat.ne_of_lt (Nat.lt_of_lt_of_le (by have := World.block_lt_of_cell? _ _ hw2212_1; first | rwa [add_block] at this | exact this) GW2221.out))) _).trans (hHeld.2.1)))), ((cell_far (p := ⟨gb2221, _, none⟩) (by first | exact Nat.ne_of_lt (Nat.lt_of_lt_of_le (by have := World.block_lt_of_cell? _ _ hw2213_0; first | rwa [add_block] at this | exact this) GW2221.out) | (rw [add_block]; exact Nat.ne_of_lt (Nat.lt_of_lt_of_le (by have := World.block_lt_of_cell? _ _ hw2213_0; first | rwa [add_block] at this | exact this) GW2221.out)) | (show (Addr.add _ _).block ≠ _; rw [add_block]; exact Nat.ne_of_lt (Nat.lt_of_lt_of_le (by have := World.block_lt_of_cell? _ _ hw2213_0; first | rwa [add_block] at this | exact this) GW2221.out)) | (dsimp only; exact Nat.ne_of_lt (Nat.lt_of_lt_of_le (by have := World.block_lt_of_cell? _ _ hw2213_0; first | rwa [add_block] at this | exact this) GW2221.out))) _).trans (((cell_far (p := ⟨gb2221, _, none⟩) (by first | exact Nat.ne_of_lt (Nat.lt_of_lt_of_le (by have := World.block_lt_of_cell? _ _ hw2213_0; first | rwa [add_block] at this | exact this) GW2221.out) | (rw [add_block]; exact Nat.ne_of_lt (Nat.lt_of_lt_of_le (by have := World.block_lt_of_cell? _ _ hw2213_0; first | rwa [add_block] at this | exact this) GW2221.out)) | (show (Addr.add _ _).block ≠ _; rw [add_block]; exact Nat.ne_of_lt (Nat.lt_of_lt_of_le (by have := World.block_lt_of_cell? _ _ hw2213_0; first | rwa [add_block] at this | exact this) GW2221.out)) | (dsimp only; exact Nat.ne_of_lt (Nat.lt_of_lt_of_le (by have := World.block_lt_of_cell? _ _ hw2213_0; first | rwa [add_block] at this | exact this) GW2221.out))) _).trans (hHeld.2.2.1)))), ((cell_far (p := ⟨gb2221, _, none⟩) (by first | exact Nat.ne_of_lt (Nat.lt_of_lt_of_le (by have := World.block_lt_of_cell? _ _ hw2213_1; first | rwa [add_block] at this | exact this) GW2221.out) | (rw [add_block]; exact Nat.ne_of_lt (Nat.lt_of_lt_of_le (by have := World.block_lt_of_cell? _ _ hw2213_1; first | rwa [add_block] at this | exact this) GW2221.out)) | (show (Addr.add _ _).block ≠ _; rw [add_block]; exact Nat.ne_of_lt (Nat.lt_of_lt_of_le (by have := World.block_lt_of_cell? _ _ hw2213_1; first | rwa [add_block] at this | exact this) GW2221.out)) | (dsimp only; exact Nat.ne_of_lt (Nat.lt_of_lt_of_le (by have := World.block_lt_of_cell? _ _ hw2213_1; first | rwa [add_block] at this | exact this) GW2221.out))) _).trans (((cell_far (p := ⟨gb2221, _, none⟩) (by first | exact Nat.ne_of_lt (Nat.lt_of_lt_of_le (by have := World.block_lt_of_cell? _ _ hw2213_1; first | rwa [add_block] at this | exact this) GW2221.out) | (rw [add_block]; exact Nat.ne_of_lt (Nat.lt_of_lt_of_le (by have := World.block_lt_of_cell? _ _ hw2213_1; first | rwa [add_block] at this | exact this) GW2221.out)) | (show (Addr.add _ _).block ≠ _; rw [add_block]; exact Nat.ne_of_lt (Nat.lt_of_lt_of_le (by have := World.block_lt_of_cell? _ _ hw2213_1; first | rwa [add_block] at this | exact this) GW2221.out)) | (dsimp only; exact Nat.ne_of_lt (Nat.lt_of_lt_of_le (by have := World.block_lt_of_cell? _ _ hw2213_1; first | rwa [add_block] at this | exact this) GW2221.out))) _).trans (hHeld.2.2.2.1)))), ((cell_far (p := ⟨gb2221, _, none⟩) (by first | exact Nat.ne_of_lt (Nat.lt_of_lt_of_le (by have := World.block_lt_of_cell? _ _ hw2216_0; first | rwa [add_block] at this | exact this) GW2221.out) | (rw [add_block]; exact Nat.ne_of_lt (Nat.lt_of_lt_of_le (by have := World.block_lt_of_cell? _ _ hw2216_0; first | rwa [add_block] at this | exact this) GW2221.out)) | (show (Addr.add _ _).block ≠ _; rw [add_block]; exact Nat.ne_of_lt (Nat.lt_of_lt_of_le (by have := World.block_lt_of_cell? _ _ hw2216_0; first | rwa [add_block] at this | exact this) GW2221.out)) | (dsimp only; exact Nat.ne_of_lt (Nat.lt_of_lt_of_le (by have := World.block_lt_of_cell? _ _ hw2216_0; first | rwa [add_block] at this | exact this) GW2221.out))) _).trans (((cell_far (p := ⟨gb2221, _, none⟩) (by first | exact Nat.ne_of_lt (Nat.lt_of_lt_of_le (by have := World.block_lt_of_cell? _ _ hw2216_0; first | rwa [add_block] at this | exact this) GW2221.out) | (rw [add_block]; exact Nat.ne_of_lt (Nat.lt_of_lt_of_le (by have := World.block_lt_of_cell? _ _ hw2216_0; first | rwa [add_block] at this | exact this) GW2221.out)) | (show (Addr.add _ _).block ≠ _; rw [add_block]; exact Nat.ne_of_lt (Nat.lt_of_lt_of_le (by have := World.block_lt_of_cell? _ _ hw2216_0; first | rwa [add_block] at this | exact this) GW2221.out)) | (dsimp only; exact Nat.ne_of_lt (Nat.lt_of_lt_of_le (by have := World.block_lt_of_cell? _ _ hw2216_0; first | rwa [add_block] at this | exact this) GW2221.out))) _).trans (hHeld.2.2.2.2.1)))), ((cell_far (p := ⟨gb2221, _, none⟩) (by first | exact Nat.ne_of_lt (Nat.lt_of_lt_of_le (by have := World.block_lt_of_cell? _ _ hw2216_1; first | rwa [add_block] at this | exact this) GW2221.out) | (rw [add_block]; exact Nat.ne_of_lt (Nat.lt_of_lt_of_le (by have := World.block_lt_of_cell? _ _ hw2216_1; first | rwa [add_block] at this | exact this) GW2221.out)) | (show (Addr.add _ _).block ≠ _; rw [add_block]; exact Nat.ne_of_lt (Nat.lt_of_lt_of_le (by have := World.block_lt_of_cell? _ _ hw2216_1; first | rwa [add_block] at this | exact this) GW2221.out)) | (dsimp only; exact Nat.ne_of_lt (Nat.lt_of_lt_of_le (by have := World.block_lt_of_cell? _ _ hw2216_1; first | rwa [add_block] at this | exact this) GW2221.out))) _).trans (((cell_far (p := ⟨gb2221, _, none⟩) (by first | exact Nat.ne_of_lt (Nat.lt_of_lt_of_le (by have := World.block_lt_of_cell? _ _ hw2216_1; first | rwa [add_block] at this | exact this) GW2221.out) | (rw [add_block]; exact Nat.ne_of_lt (Nat.lt_of_lt_of_le (by have := World.block_lt_of_cell? _ _ hw2216_1; first | rwa [add_block] at this | exact this) GW2221.out)) | (show (Addr.add _ _).block ≠ _; rw [add_block]; exact Nat.ne_of_lt (Nat.lt_of_lt_of_le (by have := World.block_lt_of_cell? _ _ hw2216_1; first | rwa [add_block] at this | exact this) GW2221.out)) | (dsimp only; exact Nat.ne_of_lt (Nat.lt_of_lt_of_le (by have := World.block_lt_of_cell? _ _ hw2216_1; first | rwa [add_block] at this | exact this) GW2221.out))) _).trans (hHeld.2.2.2.2.2.1)))), ((cell_far (p := ⟨gb2221, _, none⟩) (by first | exact Nat.ne_of_lt (Nat.lt_of_lt_of_le (by have := World.block_lt_of_cell? _ _ hw2217_0; first | rwa [add_block] at this | exact this) GW2221.out) | (rw [add_block]; exact Nat.ne_of_lt (Nat.lt_of_lt_of_le (by have := World.block_lt_of_cell? _ _ hw2217_0; first | rwa [add_block] at this | exact this) GW2221.out)) | (show (Addr.add _ _).block ≠ _; rw [add_block]; exact Nat.ne_of_lt (Nat.lt_of_lt_of_le (by have := World.block_lt_of_cell? _ _ hw2217_0; first | rwa [add_block] at this | exact this) GW2221.out)) | (dsimp only; exact Nat.ne_of_lt (Nat.lt_of_lt_of_le (by have := World.block_lt_of_cell? _ _ hw2217_0; first | rwa [add_block] at this | exact this) GW2221.out))) _).trans (((cell_far (p := ⟨gb2221, _, none⟩) (by first | exact Nat.ne_of_lt (Nat.lt_of_lt_of_le (by have := World.block_lt_of_cell? _ _ hw2217_0; first | rwa [add_block] at this | exact this) GW2221.out) | (rw [add_block]; exact Nat.ne_of_lt (Nat.lt_of_lt_of_le (by have := World.block_lt_of_cell? _ _ hw2217_0; first | rwa [add_block] at this | exact this) GW2221.out)) | (show (Addr.add _ _).block ≠ _; rw [add_block]; exact Nat.ne_of_lt (Nat.lt_of_lt_of_le (by have := World.block_lt_of_cell? _ _ hw2217_0; first | rwa [add_block] at this | exact this) GW2221.out)) | (dsimp only; exact Nat.ne_of_lt (Nat.lt_of_lt_of_le (by have := World.block_lt_of_cell? _ _ hw2217_0; first | rwa [add_block] at this | exact this) GW2221.out))) _).trans (hHeld.2.2.2.2.2.2.1)))), ((cell_far (p := ⟨gb2221, _, none⟩) (by first | exact Nat.ne_of_lt (Nat.lt_of_lt_of_le (by have := World.block_lt_of_cell? _ _ hw2217_1; first | rwa [add_block] at this | exact this) GW2221.out) | (rw [add_block]; exact Nat.ne_of_lt (Nat.lt_of_lt_of_le (by have := World.block_lt_of_cell? _ _ hw2217_1; first | rwa [add_block] at this | exact this) GW2221.out)) | (show (Addr.add _ _).block ≠ _; rw [add_block]; exact Nat.ne_of_lt (Nat.lt_of_lt_of_le (by have := World.block_lt_of_cell? _ _ hw2217_1; first | rwa [add_block] at this | exact this) GW2221.out)) | (dsimp only; exact Nat.ne_of_lt (Nat.lt_of_lt_of_le (by have := World.block_lt_of_cell? _ _ hw2217_1; first | rwa [add_block] at this | exact this) GW2221.out))) _).trans (((cell_far (p := ⟨gb2221, _, none⟩) (by first | exact Nat.ne_of_lt (Nat.lt_of_lt_of_le (by have := World.block_lt_of_cell? _ _ hw2217_1; first | rwa [add_block] at this | exact this) GW2221.out) | (rw [add_block]; exact Nat.ne_of_lt (Nat.lt_of_lt_of_le (by have := World.block_lt_of_cell? _ _ hw2217_1; first | rwa [add_block] at this | exact this) GW2221.out)) | (show (Addr.add _ _).block ≠ _; rw [add_block]; exact Nat.ne_of_lt (Nat.lt_of_lt_of_le (by have := World.block_lt_of_cell? _ _ hw2217_1; first | rwa [add_block] at this | exact this) GW2221.out)) | (dsimp only; exact Nat.ne_of_lt (Nat.lt_of_lt_of_le (by have := World.block_lt_of_cell? _ _ hw2217_1; first | rwa [add_block] at this | exact this) GW2221.out))) _).trans (hHeld.2.2.2.2.2.2.2))))⟩ (fun hHeld => ?_)
    clear hK K
    refine done_ (done_of HT_.out (by kernel_rfl)) ?_
    have hnb21 := NB2220_2221.out
    have hnc21 := NB2221_2220.out
    have hcz22_0 : w16.cell? ⟨gb2220, 0, none⟩ = some (.int .i64 0) := (blk_cell BK2220.out 0).trans rfl
    have hcz22_1 : w16.cell? ⟨gb2220, 1, none⟩ = some (.int .i64 0) := (blk_cell BK2220.out 1).trans rfl
    have hfz22_0 := blk_frozen BK2220.out 0
    have hfz22_1 := blk_frozen BK2220.out 1
    have hcz23_0 : w16.cell? ⟨gb2221, 0, none⟩ = some (.int .i64 0) := (blk_cell BK2221.out 0).trans rfl
    have hcz23_1 : w16.cell? ⟨gb2221, 1, none⟩ = some (.int .i64 0) := (blk_cell BK2221.out 1).trans rfl
    have hfz23_0 := blk_frozen BK2221.out 0
    have hfz23_1 := blk_frozen BK2221.out 1
    try go_wp2_with (first | ((with_reducible refine gate_callee (f := 205) rfl ?_); refine goesL_ (some 31) rfl rfl Try.func205 (by kernel_rfl) rfl #[.agg #[.int .i64 t2214, .int .i64 t2215], .agg #[.int .i64 t2218, .int .i64 t2219]] rfl zn ?_; (with_reducible refine (impl_cross.calls t2214 t2215 t2218 t2219 t2222 _ A8.out).mono ?_); rintro e w24 ⟨rfl, hb⟩; refine ⟨_, rfl, ?_⟩; have n0_ := Aside0.mk (Kd.R_below (by (with_reducible repeat (first | apply Kd.R_alloc | apply Kd.R_drewN | apply Kd.R_drew)); exact (Kd.R_mono (Kd.R_mono (Kd.R_far (p := ⟨gb2221, 1, none⟩) (Kd.R_far (p := ⟨gb2221, 0, none⟩) (Kd.R_far (p := ⟨gb2220, 1, none⟩) (Kd.R_far (p := ⟨gb2220, 0, none⟩) (Kd.R_mono (Kd.R_mono HO2211.out (fun k_ hk => (⟨hk, hk.1⟩ : _ ∧ k_ ≠ gb2220))) (fun k_ hk => (⟨hk, hk.1.2⟩ : _ ∧ k_ ≠ gb2221))) (fun _ hk => hk.1.2) (.int .i64 t2214)) (fun _ hk => hk.1.2) (.int .i64 t2215)) (fun _ hk => hk.2) (.int .i64 t2218)) (fun _ hk => hk.2) (.int .i64 t2219)) (fun _ h_ => h_.1)) (fun _ h_ => h_.1))) hb); have n1_ := Aside0.mk (blk_below (g := gb2220) (o := .cells #[.int .i64 t2214, .int .i64 t2215] 26 (0, 0)) (by (with_reducible repeat (first | refine blk_drewN ?_ _ | refine blk_drew ?_ | refine blk_alloc ?_ _)); refine blk_far ?_ NB2220_2221.out _; (with_reducible repeat (first | refine blk_drewN ?_ _ | refine blk_drew ?_ | refine blk_alloc ?_ _)); refine blk_far ?_ NB2220_2221.out _; (with_reducible repeat (first | refine blk_drewN ?_ _ | refine blk_drew ?_ | refine blk_alloc ?_ _)); refine blk_put (cs := #[.int .i64 t2214, .int .i64 0]) ?_ 1 _ rfl; (with_reducible repeat (first | refine blk_drewN ?_ _ | refine blk_drew ?_ | refine blk_alloc ?_ _)); refine blk_put (cs := #[.int .i64 0, .int .i64 0]) ?_ 0 _ rfl; (with_reducible repeat (first | refine blk_drewN ?_ _ | refine blk_drew ?_ | refine blk_alloc ?_ _)); exact BK2220.out) hb); have n2_ := Aside0.mk (blk_below (g := gb2221) (o := .cells #[.int .i64 t2218, .int .i64 t2219] 26 (0, 0)) (by (with_reducible repeat (first | refine blk_drewN ?_ _ | refine blk_drew ?_ | refine blk_alloc ?_ _)); refine blk_put (cs := #[.int .i64 t2218, .int .i64 0]) ?_ 1 _ rfl; (with_reducible repeat (first | refine blk_drewN ?_ _ | refine blk_drew ?_ | refine blk_alloc ?_ _)); refine blk_put (cs := #[.int .i64 0, .int .i64 0]) ?_ 0 _ rfl; (with_reducible repeat (first | refine blk_drewN ?_ _ | refine blk_drew ?_ | refine blk_alloc ?_ _)); refine blk_far ?_ NB2221_2220.out _; (with_reducible repeat (first | refine blk_drewN ?_ _ | refine blk_drew ?_ | refine blk_alloc ?_ _)); refine blk_far ?_ NB2221_2220.out _; (with_reducible repeat (first | refine blk_drewN ?_ _ | refine blk_drew ?_ | refine blk_alloc ?_ _)); exact BK2221.out) hb); have n3_ := Aside0.mk (below_step zb hb); clear HO2211; clear BK2220; clear BK2221; clear HB; have HO2211 := n0_; have BK2220 := n1_; have BK2221 := n2_; have HB := n3_; clear n0_ n1_ n2_ n3_; (try clear hb); (try clear hb2); (try clear hk); (try clear hi)))
    go_loopg [5, 9] k (fun kq v5 v9 w' => ∃ (x5_1 : List (S26)) (x9_1 : Int), v9 = .int .i64 x9_1 ∧ Aside0 (impl_directions.l0 kq l0 a1 x5_1 t2222 x9_1 t2214 t2215 t2218 t2219 = some r) ∧ Aside0 (kq ≤ k) ∧ Aside0 (Kd.R k26 26 w' w.heap.size (fun k_ => k_ ≠ gb2220 ∧ k_ ≠ gb2221) v5 x5_1) ∧ Aside0 (w'.heap[gb2220]? = some (.cells #[.int .i64 t2214, .int .i64 t2215] 26 (0, 0))) ∧ Aside0 (w'.heap[gb2221]? = some (.cells #[.int .i64 t2218, .int .i64 t2219] 26 (0, 0))) ∧ Aside0 (Below w.heap.size w w'))
    case atStart => exact ⟨(y2209), (wrap64 (-a1)), (by first | rfl | (simp; done) | (simp [*]; done)), H', ⟨Nat.le_refl _⟩, ⟨by (with_reducible repeat (first | apply Kd.R_alloc | apply Kd.R_drewN | apply Kd.R_drew)); exact HO2211.out⟩, ⟨zk⟩, ⟨zk⟩, ⟨zb⟩⟩
    case round =>
     clear H'
     try clear c2
     try clear p2
     try clear p6
     try clear c20
     try clear c21
     try clear hcz22_0
     try clear hcz22_1
     try clear hcz23_0
     try clear hcz23_1
     try clear hfz22_0
     try clear hfz22_1
     try clear hfz23_0
     try clear hfz23_1
     obtain ⟨x5_1, x9_1, rfl, HA, HK1, HO_5, BK2220, BK2221, HB⟩ := hrel
     cases gk with
     | zero => exact absurd HA.out (by simp [impl_directions.l0])
     | succ k1 =>
      have H := HA.out
      clear HA
      simp only [impl_directions.l0] at H
      by_cases c25 : x9_1 ≤ a1
      ·rw [if_pos c25] at H
       have c25b0 : decide (x9_1 ≤ a1) = true := decide_eq_true c25
       clear c25
       have H' := Aside0.mk H
       clear H
       go_wp2
       go_loopg [5, 10] k1 (fun kq v5 v10 w' => ∃ (x5_2 : List (S26)) (x10_2 : Int), v10 = .int .i64 x10_2 ∧ Aside0 (impl_directions.l1 kq l0 a1 x5_2 t2222 x9_1 x10_2 t2214 t2215 t2218 t2219 = some r) ∧ Aside0 (kq ≤ k1) ∧ Aside0 (Kd.R k26 26 w' w.heap.size (fun k_ => k_ ≠ gb2220 ∧ k_ ≠ gb2221) v5 x5_2) ∧ Aside0 (w'.heap[gb2220]? = some (.cells #[.int .i64 t2214, .int .i64 t2215] 26 (0, 0))) ∧ Aside0 (w'.heap[gb2221]? = some (.cells #[.int .i64 t2218, .int .i64 t2219] 26 (0, 0))) ∧ Aside0 (Below w.heap.size w w'))
       case atStart => exact ⟨(x5_1), (wrap64 (-a1)), (by first | rfl | (simp; done) | (simp [*]; done)), H', ⟨Nat.le_refl _⟩, ⟨by (with_reducible repeat (first | apply Kd.R_alloc | apply Kd.R_drewN | apply Kd.R_drew)); exact HO_5.out⟩, ⟨zk⟩, ⟨zk⟩, ⟨zb⟩⟩
       case round =>
        clear H'
        try clear c2
        try clear p2
        try clear p6
        try clear c20
        try clear c21
        try clear c25
        try clear c25b0
        try clear hcz22_0
        try clear hcz22_1
        try clear hcz23_0
        try clear hcz23_1
        try clear hfz22_0
        try clear hfz22_1
        try clear hfz23_0
        try clear hfz23_1
        try clear p2
        try clear p6
        obtain ⟨x5_2, x10_2, rfl, HA, HK2, HO_5, BK2220, BK2221, HB⟩ := hrel
        cases gk with
        | zero => exact absurd HA.out (by simp [impl_directions.l1])
        | succ k2 =>
         have H := HA.out
         clear HA
         simp only [impl_directions.l1] at H
         by_cases c26 : x10_2 ≤ a1
         ·rw [if_pos c26] at H
          have c26b0 : decide (x10_2 ≤ a1) = true := decide_eq_true c26
          clear c26
          have HC27 := Aside0.mk H
          clear H
          try go_wp2
          have n0_ := Aside0.mk (Kd.R_drew HO_5.out)
          have n1_ := Aside0.mk (blk_drew BK2220.out)
          have n2_ := Aside0.mk (blk_drew BK2221.out)
          have n3_ := Aside0.mk (below_drew1 HB.out)
          clear HO_5
          clear BK2220
          clear BK2221
          clear HB
          have HO_5 := n0_
          have BK2220 := n1_
          have BK2221 := n2_
          have HB := n3_
          clear n0_ n1_ n2_ n3_
          refine start_ (n := 20) (S := fun w' => w'.cell? ⟨gb2221, 0, none⟩ = some (.int .i64 t2218) ∧ w'.cell? ⟨gb2221, 1, none⟩ = some (.int .i64 t2219) ∧ w'.cell? ⟨gb2220, 0, none⟩ = some (.int .i64 t2214) ∧ w'.cell? ⟨gb2220, 1, none⟩ = some (.int .i64 t2215)) (ds := []) (zl 20 0) (by kernel_rfl) rfl rfl ⟨(blk_cell BK2221.out 0).trans rfl, (blk_cell BK2221.out 1).trans rfl, (blk_cell BK2220.out 0).trans rfl, (blk_cell BK2220.out 1).trans rfl⟩ (fun hHeld => ?_); refine with_tabW impl_directions.tab10 impl_directions.bits10 (fun HT_ HW_ => ?_)
          generalize wr.drew = w28 at HO_5 BK2220 BK2221 HB hHeld ⊢
          refine zp 0 46 20 1 HT_ ?_
          refine zp 1 47 20 3 HT_ ?_
          refine zp 4 50 20 19 HT_ ?_
          refine zp 5 51 20 51 HT_ ?_
          refine zp 9 55 20 563 HT_ ?_
          refine zp 10 56 20 1587 HT_ ?_
          refine zp 13 59 20 9779 HT_ ?_
          refine zp 14 60 20 26163 HT_ ?_
          refine take_ (i := 2) (N := some 48) (v := ?_) (a' := ?_) (zl 20 26167) rfl rfl (take_ofW HT_.out HW_.out (by kernel_rfl)) (fun _ _ _ h => h) (Or.inl ⟨by rfl, ?_⟩) hHeld ?_ ?_
          rotate_left
          ·rintro w' ⟨s0, s1, s2, s3⟩
           go_simp
           with_reducible rfl
          rotate_left
          ·exact zs
          refine zp 3 49 20 26175 HT_ ?_
          refine take_ (i := 6) (N := some 52) (v := ?_) (a' := ?_) (zl 20 26239) rfl rfl (take_ofW HT_.out HW_.out (by kernel_rfl)) (fun _ _ _ h => h) (Or.inl ⟨by rfl, ?_⟩) hHeld ?_ ?_
          rotate_left
          ·rintro w' ⟨s0, s1, s2, s3⟩
           go_simp
           with_reducible rfl
          rotate_left
          ·exact zs
          refine zp 7 53 20 26367 HT_ ?_
          refine zp 8 54 20 26623 HT_ ?_
          refine zp 18 11 20 288767 HT_ ?_
          refine take_ (i := 11) (N := some 57) (v := ?_) (a' := ?_) (zl 20 290815) rfl rfl (take_ofW HT_.out HW_.out (by kernel_rfl)) (fun _ _ _ h => h) (Or.inl ⟨by rfl, ?_⟩) hHeld ?_ ?_
          rotate_left
          ·rintro w' ⟨s0, s1, s2, s3⟩
           go_simp
           with_reducible rfl
          rotate_left
          ·exact zs
          refine zp 12 58 20 294911 HT_ ?_
          refine take_ (i := 15) (N := some 61) (v := ?_) (a' := ?_) (zl 20 327679) rfl rfl (take_ofW HT_.out HW_.out (by kernel_rfl)) (fun _ _ _ h => h) (Or.inl ⟨by rfl, ?_⟩) hHeld ?_ ?_
          rotate_left
          ·rintro w' ⟨s0, s1, s2, s3⟩
           go_simp
           with_reducible rfl
          rotate_left
          ·exact zs
          refine zp 16 62 20 393215 HT_ ?_
          refine zp 17 63 20 524287 HT_ ?_
          refine zp 19 12 20 1048575 HT_ ?_
          refine done_ (done_of HT_.out (by kernel_rfl)) ?_
          go_upto_region 11 with (fail)
          go_cut [73] (fun v73 wc => ∃ (kq : Nat) (x73_26 : Bool), v73 = .bool x73_26 ∧ Aside0 (impl_directions.j2 kq l0 a1 x5_2 t2222 x9_1 x10_2 (wrap64 ((wrap64 (x9_1 * t2219)) - (wrap64 (x10_2 * t2215)))) (wrap64 ((wrap64 (x10_2 * t2214)) - (wrap64 (x9_1 * t2218)))) x73_26 t2214 t2215 t2218 t2219 = some r) ∧ Aside0 (kq ≤ k2) ∧ Aside0 (Kd.R k26 26 wc w.heap.size (fun k_ => k_ ≠ gb2220 ∧ k_ ≠ gb2221) u5 x5_2) ∧ Aside0 (wc.heap[gb2220]? = some (.cells #[.int .i64 t2214, .int .i64 t2215] 26 (0, 0))) ∧ Aside0 (wc.heap[gb2221]? = some (.cells #[.int .i64 t2218, .int .i64 t2219] 26 (0, 0))) ∧ Aside0 (Below w.heap.size w wc))
          case first =>
           have H := HC27.out
           clear HC27
           by_cases c29 : t2222 = 0
           ·rw [if_pos c29] at H
            exact absurd H (by simp)
           ·rw [if_neg c29] at H
            have c29b0 : (t2222 == 0) = false := beq_eq_false_iff_ne.mpr c29
            have c29b1 : (t2222 != 0) = true := bne_iff_ne.mpr c29
            (first | rw [c29b0] | (simp only [i64_w, i32_w]; rw [c29b0]) | skip)
            by_cases c30 : (Int.tmod (wrap64 ((wrap64 (x9_1 * t2219)) - (wrap64 (x10_2 * t2215)))) t2222) = 0
            ·rw [if_pos c30] at H
             have c30b0 : ((Int.tmod (wrap64 ((wrap64 (x9_1 * t2219)) - (wrap64 (x10_2 * t2215)))) t2222) == 0) = true := beq_iff_eq.mpr c30
             have c30b1 : ((Int.tmod (wrap64 ((wrap64 (x9_1 * t2219)) - (wrap64 (x10_2 * t2215)))) t2222) != 0) = false := bne_eq_false_iff_eq.mpr c30
             clear c30
             have H' := Aside0.mk H
             clear H
             go_wp2
             go_meet
             case rel => exact ⟨_, (((Int.tmod (wrap64 ((wrap64 (x10_2 * t2214)) - (wrap64 (x9_1 * t2218)))) t2222) != 0)), (by first | rfl | (simp; done) | (simp [*]; done)), H', ⟨by have := HK1.out; have := HK2.out; first | omega | exact Nat.le_refl _⟩, ⟨by (with_reducible repeat (first | apply Kd.R_alloc | apply Kd.R_drewN | apply Kd.R_drew)); exact HO_5.out⟩, ⟨zk⟩, ⟨zk⟩, ⟨zb⟩⟩
            ·rw [if_neg c30] at H
             have c30b0 : ((Int.tmod (wrap64 ((wrap64 (x9_1 * t2219)) - (wrap64 (x10_2 * t2215)))) t2222) == 0) = false := beq_eq_false_iff_ne.mpr c30
             have c30b1 : ((Int.tmod (wrap64 ((wrap64 (x9_1 * t2219)) - (wrap64 (x10_2 * t2215)))) t2222) != 0) = true := bne_iff_ne.mpr c30
             have H' := Aside0.mk H
             clear H
             go_wp2
             go_meet
             case rel => exact ⟨_, (true), (by first | rfl | (simp; done) | (simp [*]; done)), H', ⟨by have := HK1.out; have := HK2.out; first | omega | exact Nat.le_refl _⟩, ⟨by (with_reducible repeat (first | apply Kd.R_alloc | apply Kd.R_drewN | apply Kd.R_drew)); exact HO_5.out⟩, ⟨zk⟩, ⟨zk⟩, ⟨zb⟩⟩
          case rest =>
           clear HC27
           try clear c2
           try clear p2
           try clear c3
           try clear p6
           try clear c20
           try clear c21
           try clear c25
           try clear c25b0
           try clear c26
           try clear c26b0
           try clear c29
           try clear c29b0
           try clear c29b1
           try clear c30
           try clear c30b0
           try clear c30b1
           try clear hcz22_0
           try clear hcz22_1
           try clear hcz23_0
           try clear hcz23_1
           try clear hfz22_0
           try clear hfz22_1
           try clear hfz23_0
           try clear hfz23_1
           try clear p2
           try clear p6
           obtain ⟨kq, x73_26, rfl, HA, HJ26, HO_5, BK2220, BK2221, HB⟩ := hcut
           cases kq with
           | zero => exact absurd HA.out (by simp [impl_directions.j2])
           | succ kj26 =>
            have H := HA.out
            clear HA
            simp only [impl_directions.j2] at H
            by_cases c31 : x73_26 = true
            ·subst c31
             have H1 : (impl_directions.l1 kj26 l0 a1 x5_2 t2222 x9_1 (wrap64 (x10_2 + 1)) t2214 t2215 t2218 t2219) = some r := by rw [if_pos rfl] at H; exact H
             clear H
             have H := H1
             clear H1
             have H' := Aside0.mk H
             clear H
             go_wp2
             go_roundg kj26
             case measure => have := HK1.out; have := HK2.out; have := HJ26.out; omega
             case rel => exact ⟨(x5_2), (wrap64 (x10_2 + 1)), (by first | rfl | (simp; done) | (simp [*]; done)), H', ⟨by have := HK1.out; have := HK2.out; have := HJ26.out; omega⟩, ⟨by (with_reducible repeat (first | apply Kd.R_alloc | apply Kd.R_drewN | apply Kd.R_drew)); exact HO_5.out⟩, ⟨zk⟩, ⟨zk⟩, ⟨zb⟩⟩
            ·replace c31 := Bool.eq_false_iff.mpr c31
             subst c31
             have H1 : (if t2222 = 0 then (none) else ((impl_divisor.f kj26 (wrap64 (Int.tdiv (wrap64 ((wrap64 (x9_1 * t2219)) - (wrap64 (x10_2 * t2215)))) t2222)) (wrap64 (Int.tdiv (wrap64 ((wrap64 (x10_2 * t2214)) - (wrap64 (x9_1 * t2218)))) t2222))).bind fun t2227 => (if t2227 = 1 then (if (wrap64 (Int.tdiv (wrap64 ((wrap64 (x9_1 * t2219)) - (wrap64 (x10_2 * t2215)))) t2222)) > 0 then ((impl_width.f kj26 l0 (wrap64 (Int.tdiv (wrap64 ((wrap64 (x9_1 * t2219)) - (wrap64 (x10_2 * t2215)))) t2222)) (wrap64 (Int.tdiv (wrap64 ((wrap64 (x10_2 * t2214)) - (wrap64 (x9_1 * t2218)))) t2222))).bind fun t2228 => (if t2228 ≤ a1 then (if x5_2.length < 8796093022208 then (impl_directions.l1 kj26 l0 a1 (x5_2 ++ [(⟨wrap64 (Int.tdiv (wrap64 ((wrap64 (x9_1 * t2219)) - (wrap64 (x10_2 * t2215)))) t2222), wrap64 (Int.tdiv (wrap64 ((wrap64 (x10_2 * t2214)) - (wrap64 (x9_1 * t2218)))) t2222)⟩ : S26)]) t2222 x9_1 (wrap64 (x10_2 + 1)) t2214 t2215 t2218 t2219) else (none)) else (impl_directions.l1 kj26 l0 a1 x5_2 t2222 x9_1 (wrap64 (x10_2 + 1)) t2214 t2215 t2218 t2219))) else (if (wrap64 (Int.tdiv (wrap64 ((wrap64 (x9_1 * t2219)) - (wrap64 (x10_2 * t2215)))) t2222)) = 0 then (if (wrap64 (Int.tdiv (wrap64 ((wrap64 (x10_2 * t2214)) - (wrap64 (x9_1 * t2218)))) t2222)) = 1 then ((impl_width.f kj26 l0 (wrap64 (Int.tdiv (wrap64 ((wrap64 (x9_1 * t2219)) - (wrap64 (x10_2 * t2215)))) t2222)) (wrap64 (Int.tdiv (wrap64 ((wrap64 (x10_2 * t2214)) - (wrap64 (x9_1 * t2218)))) t2222))).bind fun t2232 => (if t2232 ≤ a1 then (if x5_2.length < 8796093022208 then (impl_directions.l1 kj26 l0 a1 (x5_2 ++ [(⟨wrap64 (Int.tdiv (wrap64 ((wrap64 (x9_1 * t2219)) - (wrap64 (x10_2 * t2215)))) t2222), wrap64 (Int.tdiv (wrap64 ((wrap64 (x10_2 * t2214)) - (wrap64 (x9_1 * t2218)))) t2222)⟩ : S26)]) t2222 x9_1 (wrap64 (x10_2 + 1)) t2214 t2215 t2218 t2219) else (none)) else (impl_directions.l1 kj26 l0 a1 x5_2 t2222 x9_1 (wrap64 (x10_2 + 1)) t2214 t2215 t2218 t2219))) else (impl_directions.l1 kj26 l0 a1 x5_2 t2222 x9_1 (wrap64 (x10_2 + 1)) t2214 t2215 t2218 t2219)) else (impl_directions.l1 kj26 l0 a1 x5_2 t2222 x9_1 (wrap64 (x10_2 + 1)) t2214 t2215 t2218 t2219))) else (impl_directions.l1 kj26 l0 a1 x5_2 t2222 x9_1 (wrap64 (x10_2 + 1)) t2214 t2215 t2218 t2219)))) = some r := by rw [if_neg (show ¬ (false = true) by decide)] at H; exact H
             clear H
             have H := H1
             clear H1
             by_cases c32 : t2222 = 0
             ·rw [if_pos c32] at H
              exact absurd H (by simp)
             ·rw [if_neg c32] at H
              have c32b0 : (t2222 == 0) = false := beq_eq_false_iff_ne.mpr c32
              have c32b1 : (t2222 != 0) = true := bne_iff_ne.mpr c32
              replace H := Option.bind_eq_some_iff.mp H
              obtain ⟨t2227, A330, H⟩ := H
              replace H : (if t2227 = 1 then (if (wrap64 (Int.tdiv (wrap64 ((wrap64 (x9_1 * t2219)) - (wrap64 (x10_2 * t2215)))) t2222)) > 0 then ((impl_width.f kj26 l0 (wrap64 (Int.tdiv (wrap64 ((wrap64 (x9_1 * t2219)) - (wrap64 (x10_2 * t2215)))) t2222)) (wrap64 (Int.tdiv (wrap64 ((wrap64 (x10_2 * t2214)) - (wrap64 (x9_1 * t2218)))) t2222))).bind fun t2228 => (if t2228 ≤ a1 then (if x5_2.length < 8796093022208 then (impl_directions.l1 kj26 l0 a1 (x5_2 ++ [(⟨wrap64 (Int.tdiv (wrap64 ((wrap64 (x9_1 * t2219)) - (wrap64 (x10_2 * t2215)))) t2222), wrap64 (Int.tdiv (wrap64 ((wrap64 (x10_2 * t2214)) - (wrap64 (x9_1 * t2218)))) t2222)⟩ : S26)]) t2222 x9_1 (wrap64 (x10_2 + 1)) t2214 t2215 t2218 t2219) else (none)) else (impl_directions.l1 kj26 l0 a1 x5_2 t2222 x9_1 (wrap64 (x10_2 + 1)) t2214 t2215 t2218 t2219))) else (if (wrap64 (Int.tdiv (wrap64 ((wrap64 (x9_1 * t2219)) - (wrap64 (x10_2 * t2215)))) t2222)) = 0 then (if (wrap64 (Int.tdiv (wrap64 ((wrap64 (x10_2 * t2214)) - (wrap64 (x9_1 * t2218)))) t2222)) = 1 then ((impl_width.f kj26 l0 (wrap64 (Int.tdiv (wrap64 ((wrap64 (x9_1 * t2219)) - (wrap64 (x10_2 * t2215)))) t2222)) (wrap64 (Int.tdiv (wrap64 ((wrap64 (x10_2 * t2214)) - (wrap64 (x9_1 * t2218)))) t2222))).bind fun t2232 => (if t2232 ≤ a1 then (if x5_2.length < 8796093022208 then (impl_directions.l1 kj26 l0 a1 (x5_2 ++ [(⟨wrap64 (Int.tdiv (wrap64 ((wrap64 (x9_1 * t2219)) - (wrap64 (x10_2 * t2215)))) t2222), wrap64 (Int.tdiv (wrap64 ((wrap64 (x10_2 * t2214)) - (wrap64 (x9_1 * t2218)))) t2222)⟩ : S26)]) t2222 x9_1 (wrap64 (x10_2 + 1)) t2214 t2215 t2218 t2219) else (none)) else (impl_directions.l1 kj26 l0 a1 x5_2 t2222 x9_1 (wrap64 (x10_2 + 1)) t2214 t2215 t2218 t2219))) else (impl_directions.l1 kj26 l0 a1 x5_2 t2222 x9_1 (wrap64 (x10_2 + 1)) t2214 t2215 t2218 t2219)) else (impl_directions.l1 kj26 l0 a1 x5_2 t2222 x9_1 (wrap64 (x10_2 + 1)) t2214 t2215 t2218 t2219))) else (impl_directions.l1 kj26 l0 a1 x5_2 t2222 x9_1 (wrap64 (x10_2 + 1)) t2214 t2215 t2218 t2219)) = some r := H
              have A33 := Aside0.mk A330
              clear A330
              by_cases c34 : t2227 = 1
              ·rw [if_pos c34] at H
               have c34b0 : (t2227 == 1) = true := beq_iff_eq.mpr c34
               have c34b1 : (t2227 != 1) = false := bne_eq_false_iff_eq.mpr c34
               clear c34
               by_cases c35 : (wrap64 (Int.tdiv (wrap64 ((wrap64 (x9_1 * t2219)) - (wrap64 (x10_2 * t2215)))) t2222)) > 0
               ·rw [if_pos c35] at H
                have c35b0 : decide (0 < (wrap64 (Int.tdiv (wrap64 ((wrap64 (x9_1 * t2219)) - (wrap64 (x10_2 * t2215)))) t2222))) = true := decide_eq_true c35
                clear c35
                replace H := Option.bind_eq_some_iff.mp H
                obtain ⟨t2228, A360, H⟩ := H
                replace H : (if t2228 ≤ a1 then (if x5_2.length < 8796093022208 then (impl_directions.l1 kj26 l0 a1 (x5_2 ++ [(⟨wrap64 (Int.tdiv (wrap64 ((wrap64 (x9_1 * t2219)) - (wrap64 (x10_2 * t2215)))) t2222), wrap64 (Int.tdiv (wrap64 ((wrap64 (x10_2 * t2214)) - (wrap64 (x9_1 * t2218)))) t2222)⟩ : S26)]) t2222 x9_1 (wrap64 (x10_2 + 1)) t2214 t2215 t2218 t2219) else (none)) else (impl_directions.l1 kj26 l0 a1 x5_2 t2222 x9_1 (wrap64 (x10_2 + 1)) t2214 t2215 t2218 t2219)) = some r := H
                have A36 := Aside0.mk A360
                clear A360
                by_cases c37 : t2228 ≤ a1
                ·rw [if_pos c37] at H
                 have c37b0 : decide (t2228 ≤ a1) = true := decide_eq_true c37
                 clear c37
                 by_cases c38 : x5_2.length < 8796093022208
                 ·rw [if_pos c38] at H
                  have LMc38 := Aside0.mk c38
                  clear c38
                  obtain ⟨y2229, hy2229⟩ : ∃ y_ : List (S26), y_ = (x5_2 ++ [(⟨wrap64 (Int.tdiv (wrap64 ((wrap64 (x9_1 * t2219)) - (wrap64 (x10_2 * t2215)))) t2222), wrap64 (Int.tdiv (wrap64 ((wrap64 (x10_2 * t2214)) - (wrap64 (x9_1 * t2218)))) t2222)⟩ : S26)]) := ⟨_, rfl⟩
                  replace H : (impl_directions.l1 kj26 l0 a1 y2229 t2222 x9_1 (wrap64 (x10_2 + 1)) t2214 t2215 t2218 t2219) = some r := by first | (rw [hy2229]; with_reducible exact H) | (have H2_ := (Option.bind_some _ _).symm.trans H; rw [hy2229]; with_reducible exact H2_) | (have H2_ := (Option.bind_some _ _).symm.trans H; with_reducible exact H2_) | with_reducible exact H | (rw [hy2229]; exact H) | exact H
                  have Ny2229 := Aside0.mk hy2229
                  clear hy2229
                  have H' := Aside0.mk H
                  clear H
                  try go_wp2
                  have n0_ := Aside0.mk (Kd.R_drew HO_5.out)
                  have n1_ := Aside0.mk (blk_drew BK2220.out)
                  have n2_ := Aside0.mk (blk_drew BK2221.out)
                  have n3_ := Aside0.mk (below_drew1 HB.out)
                  clear HO_5
                  clear BK2220
                  clear BK2221
                  clear HB
                  have HO_5 := n0_
                  have BK2220 := n1_
                  have BK2221 := n2_
                  have HB := n3_
                  clear n0_ n1_ n2_ n3_
                  refine start_ (n := 9) (S := fun w' => True) (ds := []) (zl 9 0) (by kernel_rfl) rfl rfl trivial (fun hHeld => ?_); refine with_tabW impl_directions.tab12 impl_directions.bits12 (fun HT_ HW_ => ?_)
                  generalize wc.drew = w39 at HO_5 BK2220 BK2221 HB hHeld ⊢
                  refine zp 0 74 9 1 HT_ ?_
                  refine zp 1 75 9 3 HT_ ?_
                  refine zp 2 76 9 7 HT_ ?_
                  refine zp 3 77 9 15 HT_ ?_
                  refine zp 4 78 9 31 HT_ ?_
                  refine zp 5 79 9 63 HT_ ?_
                  refine zp 6 80 9 127 HT_ ?_
                  refine one_ (i := 7) (N := some 13) (zl 9 255) rfl rfl (one_of HT_.out (by kernel_rfl)) (by decide) (fun K hK => ?_)
                  refine box_step ?hg (N := 13) ?hd (cs := #[.int .i64 0, .int .i64 0]) (t := 26) ?hr ?_; (case hd => rfl); (case hg => rfl); (case hr => first | (go_simp; done) | (go_simp; rfl))
                  intro gb2226 hg w40 hbox hb
                  have n0_ := Aside0.mk (Kd.R_below (Kd.R_elderB (by (with_reducible repeat (first | apply Kd.R_alloc | apply Kd.R_drewN | apply Kd.R_drew)); exact HO_5.out) gb2226 (Nat.le_of_eq hg.symm)) hb)
                  have n1_ := Aside0.mk (blk_below (g := gb2220) (o := .cells #[.int .i64 t2214, .int .i64 t2215] 26 (0, 0)) zk hb)
                  have n2_ := Aside0.mk (blk_below (g := gb2221) (o := .cells #[.int .i64 t2218, .int .i64 t2219] 26 (0, 0)) zk hb)
                  have n3_ := Aside0.mk (below_step zb hb)
                  have n4_ := Aside0.mk (hbox)
                  have n5_ := Aside0.mk ((by rw [hg]; exact (below_size zb) : w.heap.size ≤ gb2226))
                  have n6_ := Aside0.mk ((by rw [hg]; exact (below_size zb) : w.heap.size ≤ gb2226))
                  have n7_ := Aside0.mk ((by rw [hg]; exact Nat.ne_of_lt (blk_lt (g := gb2220) (o := .cells #[.int .i64 t2214, .int .i64 t2215] 26 (0, 0)) zk) : gb2220 ≠ gb2226))
                  have n8_ := Aside0.mk ((by rw [hg]; exact Nat.ne_of_gt (blk_lt (g := gb2220) (o := .cells #[.int .i64 t2214, .int .i64 t2215] 26 (0, 0)) zk) : gb2226 ≠ gb2220))
                  have n9_ := Aside0.mk ((by rw [hg]; exact Nat.ne_of_lt (blk_lt (g := gb2221) (o := .cells #[.int .i64 t2218, .int .i64 t2219] 26 (0, 0)) zk) : gb2221 ≠ gb2226))
                  have n10_ := Aside0.mk ((by rw [hg]; exact Nat.ne_of_gt (blk_lt (g := gb2221) (o := .cells #[.int .i64 t2218, .int .i64 t2219] 26 (0, 0)) zk) : gb2226 ≠ gb2221))
                  clear HO_5
                  clear BK2220
                  clear BK2221
                  clear HB
                  have HO_5 := n0_
                  have BK2220 := n1_
                  have BK2221 := n2_
                  have HB := n3_
                  have BK2226 := n4_
                  have GW2226 := n5_
                  have GE2226 := n6_
                  have NB2220_2226 := n7_
                  have NB2226_2220 := n8_
                  have NB2221_2226 := n9_
                  have NB2226_2221 := n10_
                  clear n0_ n1_ n2_ n3_ n4_ n5_ n6_ n7_ n8_ n9_ n10_
                  clear hb hbox hg
                  refine hK.out _ _ trivial (fun hHeld => ?_)
                  clear hK K
                  refine norm_ (a' := ?_) ?_ ?_
                  rotate_left
                  ·show Act.put _ (some 13) _ = _
                   exact zs
                  refine one_ (i := 8) (N := none) (zl 9 511) rfl rfl (one_of HT_.out (by kernel_rfl)) (by decide) (fun K hK => ?_)
                  have hs41 : w40.cell? ⟨gb2226, 0, none⟩ = some (.int .i64 0) := (blk_cell BK2226.out 0).trans rfl
                  have hfs41 := blk_frozen BK2226.out 0
                  have hns41_0 := NB2220_2226.out
                  have hns41_1 := NB2221_2226.out
                  have hms41_0 := NB2226_2220.out
                  have hms41_1 := NB2226_2221.out
                  have hs42 : w40.cell? ⟨gb2226, 1, none⟩ = some (.int .i64 0) := (blk_cell BK2226.out 1).trans rfl
                  have hfs42 := blk_frozen BK2226.out 1
                  have hns42_0 := NB2220_2226.out
                  have hns42_1 := NB2221_2226.out
                  have hms42_0 := NB2226_2220.out
                  have hms42_1 := NB2226_2221.out
                  refine skip_ (w1 := ?_) (by rfl) rfl ?_ ?_
                  rotate_left
                  ·go_simp
                   rfl
                  refine hK.out _ _ trivial (fun hHeld => ?_)
                  clear hK K
                  refine done_ (done_of HT_.out (by kernel_rfl)) ?_
                  have hnb43 := NB2226_2220.out
                  have hnc43 := NB2220_2226.out
                  have hnb44 := NB2226_2221.out
                  have hnc44 := NB2221_2226.out
                  have hcz45_0 : w40.cell? ⟨gb2226, 0, none⟩ = some (.int .i64 0) := (blk_cell BK2226.out 0).trans rfl
                  have hcz45_1 : w40.cell? ⟨gb2226, 1, none⟩ = some (.int .i64 0) := (blk_cell BK2226.out 1).trans rfl
                  have hfz45_0 := blk_frozen BK2226.out 0
                  have hfz45_1 := blk_frozen BK2226.out 1
                  try go_wp2_with (first | ((with_reducible refine gate_callee (f := 197) rfl ?_); refine goesL_ (some 85) rfl rfl Try.func197 (by kernel_rfl) rfl #[.int .i64 (wrap64 (Int.tdiv (wrap64 ((wrap64 (x9_1 * t2219)) - (wrap64 (x10_2 * t2215)))) t2222)), .int .i64 (wrap64 (Int.tdiv (wrap64 ((wrap64 (x10_2 * t2214)) - (wrap64 (x9_1 * t2218)))) t2222))] rfl zn ?_; (with_reducible refine (impl_divisor.calls kj26 (wrap64 (Int.tdiv (wrap64 ((wrap64 (x9_1 * t2219)) - (wrap64 (x10_2 * t2215)))) t2222)) (wrap64 (Int.tdiv (wrap64 ((wrap64 (x10_2 * t2214)) - (wrap64 (x9_1 * t2218)))) t2222)) t2227 _ A33.out).mono ?_); rintro e w46 ⟨rfl, hb⟩; refine ⟨_, rfl, ?_⟩; have n0_ := Aside0.mk (Kd.R_below (by (with_reducible repeat (first | apply Kd.R_alloc | apply Kd.R_drewN | apply Kd.R_drew)); exact (Kd.R_mono (Kd.R_far (p := ⟨gb2226, 1, none⟩) (Kd.R_far (p := ⟨gb2226, 0, none⟩) (Kd.R_mono HO_5.out (fun k_ hk => (⟨hk, hk.2⟩ : _ ∧ k_ ≠ gb2226))) (fun _ hk => hk.2) (.int .i64 (wrap64 (Int.tdiv (wrap64 ((wrap64 (x9_1 * t2219)) - (wrap64 (x10_2 * t2215)))) t2222)))) (fun _ hk => hk.2) (.int .i64 (wrap64 (Int.tdiv (wrap64 ((wrap64 (x10_2 * t2214)) - (wrap64 (x9_1 * t2218)))) t2222)))) (fun _ h_ => h_.1))) hb); have n1_ := Aside0.mk (blk_below (g := gb2220) (o := .cells #[.int .i64 t2214, .int .i64 t2215] 26 (0, 0)) (by (with_reducible repeat (first | refine blk_drewN ?_ _ | refine blk_drew ?_ | refine blk_alloc ?_ _)); refine blk_far ?_ NB2220_2226.out _; (with_reducible repeat (first | refine blk_drewN ?_ _ | refine blk_drew ?_ | refine blk_alloc ?_ _)); refine blk_far ?_ NB2220_2226.out _; (with_reducible repeat (first | refine blk_drewN ?_ _ | refine blk_drew ?_ | refine blk_alloc ?_ _)); exact BK2220.out) hb); have n2_ := Aside0.mk (blk_below (g := gb2221) (o := .cells #[.int .i64 t2218, .int .i64 t2219] 26 (0, 0)) (by (with_reducible repeat (first | refine blk_drewN ?_ _ | refine blk_drew ?_ | refine blk_alloc ?_ _)); refine blk_far ?_ NB2221_2226.out _; (with_reducible repeat (first | refine blk_drewN ?_ _ | refine blk_drew ?_ | refine blk_alloc ?_ _)); refine blk_far ?_ NB2221_2226.out _; (with_reducible repeat (first | refine blk_drewN ?_ _ | refine blk_drew ?_ | refine blk_alloc ?_ _)); exact BK2221.out) hb); have n3_ := Aside0.mk (blk_below (g := gb2226) (o := .cells #[.int .i64 (wrap64 (Int.tdiv (wrap64 ((wrap64 (x9_1 * t2219)) - (wrap64 (x10_2 * t2215)))) t2222)), .int .i64 (wrap64 (Int.tdiv (wrap64 ((wrap64 (x10_2 * t2214)) - (wrap64 (x9_1 * t2218)))) t2222))] 26 (0, 0)) (by (with_reducible repeat (first | refine blk_drewN ?_ _ | refine blk_drew ?_ | refine blk_alloc ?_ _)); refine blk_put (cs := #[.int .i64 (wrap64 (Int.tdiv (wrap64 ((wrap64 (x9_1 * t2219)) - (wrap64 (x10_2 * t2215)))) t2222)), .int .i64 0]) ?_ 1 _ rfl; (with_reducible repeat (first | refine blk_drewN ?_ _ | refine blk_drew ?_ | refine blk_alloc ?_ _)); refine blk_put (cs := #[.int .i64 0, .int .i64 0]) ?_ 0 _ rfl; (with_reducible repeat (first | refine blk_drewN ?_ _ | refine blk_drew ?_ | refine blk_alloc ?_ _)); exact BK2226.out) hb); have n4_ := Aside0.mk (below_step zb hb); clear HO_5; clear BK2220; clear BK2221; clear BK2226; clear HB; have HO_5 := n0_; have BK2220 := n1_; have BK2221 := n2_; have BK2226 := n3_; have HB := n4_; clear n0_ n1_ n2_ n3_ n4_; (try clear hb); (try clear hb2); (try clear hk); (try clear hi); have hcz47_0 : w46.cell? ⟨gb2226, 0, none⟩ = some (.int .i64 (wrap64 (Int.tdiv (wrap64 ((wrap64 (x9_1 * t2219)) - (wrap64 (x10_2 * t2215)))) t2222))) := (blk_cell BK2226.out 0).trans rfl; have hcz47_1 : w46.cell? ⟨gb2226, 1, none⟩ = some (.int .i64 (wrap64 (Int.tdiv (wrap64 ((wrap64 (x10_2 * t2214)) - (wrap64 (x9_1 * t2218)))) t2222))) := (blk_cell BK2226.out 1).trans rfl; have hfz47_0 := blk_frozen BK2226.out 0; have hfz47_1 := blk_frozen BK2226.out 1) | (go_at_call 261; (with_reducible refine (impl_width.calls kj26 _ _ l0 (wrap64 (Int.tdiv (wrap64 ((wrap64 (x9_1 * t2219)) - (wrap64 (x10_2 * t2215)))) t2222)) (wrap64 (Int.tdiv (wrap64 ((wrap64 (x10_2 * t2214)) - (wrap64 (x9_1 * t2218)))) t2222)) t2228 _ ?side1 ?side2 A36.out).mono ?_); (case side1 => repeat (first | exact (Kd.C_below HR0.out HB.out) | (with_reducible refine Kd.C_alloc ?_ _) | (with_reducible refine Kd.C_drewN ?_ _) | (with_reducible refine Kd.C_drew ?_))); (case side2 => exact HC0.out); rintro e w48 ⟨rfl, hb⟩; have n0_ := Aside0.mk (Kd.R_below (by (with_reducible repeat (first | apply Kd.R_alloc | apply Kd.R_drewN | apply Kd.R_drew)); exact HO_5.out) hb); have n1_ := Aside0.mk (blk_below (g := gb2220) (o := .cells #[.int .i64 t2214, .int .i64 t2215] 26 (0, 0)) zk hb); have n2_ := Aside0.mk (blk_below (g := gb2221) (o := .cells #[.int .i64 t2218, .int .i64 t2219] 26 (0, 0)) zk hb); have n3_ := Aside0.mk (blk_below (g := gb2226) (o := .cells #[.int .i64 (wrap64 (Int.tdiv (wrap64 ((wrap64 (x9_1 * t2219)) - (wrap64 (x10_2 * t2215)))) t2222)), .int .i64 (wrap64 (Int.tdiv (wrap64 ((wrap64 (x10_2 * t2214)) - (wrap64 (x9_1 * t2218)))) t2222))] 26 (0, 0)) zk hb); have n4_ := Aside0.mk (below_step zb hb); clear HO_5; clear BK2220; clear BK2221; clear BK2226; clear HB; have HO_5 := n0_; have BK2220 := n1_; have BK2221 := n2_; have BK2226 := n3_; have HB := n4_; clear n0_ n1_ n2_ n3_ n4_; (try clear hb); (try clear hb2); (try clear hk); (try clear hi); have hcz49_0 : w48.cell? ⟨gb2226, 0, none⟩ = some (.int .i64 (wrap64 (Int.tdiv (wrap64 ((wrap64 (x9_1 * t2219)) - (wrap64 (x10_2 * t2215)))) t2222))) := (blk_cell BK2226.out 0).trans rfl; have hcz49_1 : w48.cell? ⟨gb2226, 1, none⟩ = some (.int .i64 (wrap64 (Int.tdiv (wrap64 ((wrap64 (x10_2 * t2214)) - (wrap64 (x9_1 * t2218)))) t2222))) := (blk_cell BK2226.out 1).trans rfl; have hfz49_0 := blk_frozen BK2226.out 0; have hfz49_1 := blk_frozen BK2226.out 1) | ((with_reducible refine gate_builtin (b := .append) (xs := #[.tmp 109, .tmp 111]) rfl ?_); at_builtin; refine Kd.R_append k26 (w0 := w) w.heap.size rfl (.tmp 109) (.tmp 111) 24 26 (.agg #[(.int .i64 0), (.int .i64 0)]) 16 rfl Try.underlying24 info26 rfl (by decide) (by omega) u5 x5_2 (⟨wrap64 (Int.tdiv (wrap64 ((wrap64 (x9_1 * t2219)) - (wrap64 (x10_2 * t2215)))) t2222), wrap64 (Int.tdiv (wrap64 ((wrap64 (x10_2 * t2214)) - (wrap64 (x9_1 * t2218)))) t2222)⟩ : S26) [.int .i64 (wrap64 (Int.tdiv (wrap64 ((wrap64 (x9_1 * t2219)) - (wrap64 (x10_2 * t2215)))) t2222)), .int .i64 (wrap64 (Int.tdiv (wrap64 ((wrap64 (x10_2 * t2214)) - (wrap64 (x9_1 * t2218)))) t2222))] (fun k_ => k_ ≠ gb2220 ∧ k_ ≠ gb2221 ∧ k_ ≠ gb2226) (fun _ => False) rfl rfl ?aP (fun _ hk => hk.elim) ?aF ?aO ?aB ?aS ?aL ?_; (case aP => exact k26_mkM _ _ _ (⟨wrap64 (Int.tdiv (wrap64 ((wrap64 (x9_1 * t2219)) - (wrap64 (x10_2 * t2215)))) t2222), wrap64 (Int.tdiv (wrap64 ((wrap64 (x10_2 * t2214)) - (wrap64 (x9_1 * t2218)))) t2222)⟩ : S26)); (case aB => exact zb); (case aF => exact (fun k_ hk => ⟨Kd.freshB (g := gb2220) (o := .cells #[.int .i64 t2214, .int .i64 t2215] 26 (0, 0)) zk k_ hk, Kd.freshB (g := gb2221) (o := .cells #[.int .i64 t2218, .int .i64 t2219] 26 (0, 0)) zk k_ hk, Kd.freshB (g := gb2226) (o := .cells #[.int .i64 (wrap64 (Int.tdiv (wrap64 ((wrap64 (x9_1 * t2219)) - (wrap64 (x10_2 * t2215)))) t2222)), .int .i64 (wrap64 (Int.tdiv (wrap64 ((wrap64 (x10_2 * t2214)) - (wrap64 (x9_1 * t2218)))) t2222))] 26 (0, 0)) zk k_ hk⟩)); (case aO => exact (by (with_reducible repeat (first | apply Kd.R_alloc | apply Kd.R_drewN | apply Kd.R_drew)); exact Kd.R_mono HO_5.out (fun _ hk => ⟨hk.1.1, ⟨hk.1.2, hk.2⟩⟩))); (case aS => exact (below_size zb)); (case aL => have := LMc38.out; omega); intro v2230 w50 ho hb hg hat; rw [← Ny2229.out] at ho; have n0_ := Aside0.mk (blk_grown (g := gb2220) (o := .cells #[.int .i64 t2214, .int .i64 t2215] 26 (0, 0)) zk hg (Kd.R_away HO_5.out (fun _ hk => hk.1.1))); have n1_ := Aside0.mk (blk_grown (g := gb2221) (o := .cells #[.int .i64 t2218, .int .i64 t2219] 26 (0, 0)) zk hg (Kd.R_away HO_5.out (fun _ hk => hk.1.2))); have n2_ := Aside0.mk (blk_grown (g := gb2226) (o := .cells #[.int .i64 (wrap64 (Int.tdiv (wrap64 ((wrap64 (x9_1 * t2219)) - (wrap64 (x10_2 * t2215)))) t2222)), .int .i64 (wrap64 (Int.tdiv (wrap64 ((wrap64 (x10_2 * t2214)) - (wrap64 (x9_1 * t2218)))) t2222))] 26 (0, 0)) zk hg (Kd.R_away HO_5.out (fun _ hk => hk.2))); have n3_ := Aside0.mk (hb); have n4_ := Aside0.mk (ho); clear BK2220; clear BK2221; clear BK2226; clear HB; clear HO_5; have BK2220 := n0_; have BK2221 := n1_; have BK2226 := n2_; have HB := n3_; have HO2231 := n4_; clear n0_ n1_ n2_ n3_ n4_; clear ho hb hg hat))
                  go_roundg kj26
                  case measure => have := HK1.out; have := HK2.out; have := HJ26.out; omega
                  case rel => exact ⟨(y2229), (wrap64 (x10_2 + 1)), (by first | rfl | (simp; done) | (simp [*]; done)), H', ⟨by have := HK1.out; have := HK2.out; have := HJ26.out; omega⟩, ⟨by (with_reducible repeat (first | apply Kd.R_alloc | apply Kd.R_drewN | apply Kd.R_drew)); exact Kd.R_mono HO2231.out (fun _ hk => ⟨hk.1, hk.2.1⟩)⟩, ⟨zk⟩, ⟨zk⟩, ⟨zb⟩⟩
                 ·rw [if_neg c38] at H
                  exact absurd H (by simp)
                ·rw [if_neg c37] at H
                 have c37b0 : decide (t2228 ≤ a1) = false := decide_eq_false c37
                 clear c37
                 have H' := Aside0.mk H
                 clear H
                 try go_wp2
                 have n0_ := Aside0.mk (Kd.R_drew HO_5.out)
                 have n1_ := Aside0.mk (blk_drew BK2220.out)
                 have n2_ := Aside0.mk (blk_drew BK2221.out)
                 have n3_ := Aside0.mk (below_drew1 HB.out)
                 clear HO_5
                 clear BK2220
                 clear BK2221
                 clear HB
                 have HO_5 := n0_
                 have BK2220 := n1_
                 have BK2221 := n2_
                 have HB := n3_
                 clear n0_ n1_ n2_ n3_
                 refine start_ (n := 9) (S := fun w' => True) (ds := []) (zl 9 0) (by kernel_rfl) rfl rfl trivial (fun hHeld => ?_); refine with_tabW impl_directions.tab12 impl_directions.bits12 (fun HT_ HW_ => ?_)
                 generalize wc.drew = w51 at HO_5 BK2220 BK2221 HB hHeld ⊢
                 refine zp 0 74 9 1 HT_ ?_
                 refine zp 1 75 9 3 HT_ ?_
                 refine zp 2 76 9 7 HT_ ?_
                 refine zp 3 77 9 15 HT_ ?_
                 refine zp 4 78 9 31 HT_ ?_
                 refine zp 5 79 9 63 HT_ ?_
                 refine zp 6 80 9 127 HT_ ?_
                 refine one_ (i := 7) (N := some 13) (zl 9 255) rfl rfl (one_of HT_.out (by kernel_rfl)) (by decide) (fun K hK => ?_)
                 refine box_step ?hg (N := 13) ?hd (cs := #[.int .i64 0, .int .i64 0]) (t := 26) ?hr ?_; (case hd => rfl); (case hg => rfl); (case hr => first | (go_simp; done) | (go_simp; rfl))
                 intro gb2226 hg w52 hbox hb
                 have n0_ := Aside0.mk (Kd.R_below (Kd.R_elderB (by (with_reducible repeat (first | apply Kd.R_alloc | apply Kd.R_drewN | apply Kd.R_drew)); exact HO_5.out) gb2226 (Nat.le_of_eq hg.symm)) hb)
                 have n1_ := Aside0.mk (blk_below (g := gb2220) (o := .cells #[.int .i64 t2214, .int .i64 t2215] 26 (0, 0)) zk hb)
                 have n2_ := Aside0.mk (blk_below (g := gb2221) (o := .cells #[.int .i64 t2218, .int .i64 t2219] 26 (0, 0)) zk hb)
                 have n3_ := Aside0.mk (below_step zb hb)
                 have n4_ := Aside0.mk (hbox)
                 have n5_ := Aside0.mk ((by rw [hg]; exact (below_size zb) : w.heap.size ≤ gb2226))
                 have n6_ := Aside0.mk ((by rw [hg]; exact (below_size zb) : w.heap.size ≤ gb2226))
                 have n7_ := Aside0.mk ((by rw [hg]; exact Nat.ne_of_lt (blk_lt (g := gb2220) (o := .cells #[.int .i64 t2214, .int .i64 t2215] 26 (0, 0)) zk) : gb2220 ≠ gb2226))
                 have n8_ := Aside0.mk ((by rw [hg]; exact Nat.ne_of_gt (blk_lt (g := gb2220) (o := .cells #[.int .i64 t2214, .int .i64 t2215] 26 (0, 0)) zk) : gb2226 ≠ gb2220))
                 have n9_ := Aside0.mk ((by rw [hg]; exact Nat.ne_of_lt (blk_lt (g := gb2221) (o := .cells #[.int .i64 t2218, .int .i64 t2219] 26 (0, 0)) zk) : gb2221 ≠ gb2226))
                 have n10_ := Aside0.mk ((by rw [hg]; exact Nat.ne_of_gt (blk_lt (g := gb2221) (o := .cells #[.int .i64 t2218, .int .i64 t2219] 26 (0, 0)) zk) : gb2226 ≠ gb2221))
                 clear HO_5
                 clear BK2220
                 clear BK2221
                 clear HB
                 have HO_5 := n0_
                 have BK2220 := n1_
                 have BK2221 := n2_
                 have HB := n3_
                 have BK2226 := n4_
                 have GW2226 := n5_
                 have GE2226 := n6_
                 have NB2220_2226 := n7_
                 have NB2226_2220 := n8_
                 have NB2221_2226 := n9_
                 have NB2226_2221 := n10_
                 clear n0_ n1_ n2_ n3_ n4_ n5_ n6_ n7_ n8_ n9_ n10_
                 clear hb hbox hg
                 refine hK.out _ _ trivial (fun hHeld => ?_)
                 clear hK K
                 refine norm_ (a' := ?_) ?_ ?_
                 rotate_left
                 ·show Act.put _ (some 13) _ = _
                  exact zs
                 refine one_ (i := 8) (N := none) (zl 9 511) rfl rfl (one_of HT_.out (by kernel_rfl)) (by decide) (fun K hK => ?_)
                 have hs53 : w52.cell? ⟨gb2226, 0, none⟩ = some (.int .i64 0) := (blk_cell BK2226.out 0).trans rfl
                 have hfs53 := blk_frozen BK2226.out 0
                 have hns53_0 := NB2220_2226.out
                 have hns53_1 := NB2221_2226.out
                 have hms53_0 := NB2226_2220.out
                 have hms53_1 := NB2226_2221.out
                 have hs54 : w52.cell? ⟨gb2226, 1, none⟩ = some (.int .i64 0) := (blk_cell BK2226.out 1).trans rfl
                 have hfs54 := blk_frozen BK2226.out 1
                 have hns54_0 := NB2220_2226.out
                 have hns54_1 := NB2221_2226.out
                 have hms54_0 := NB2226_2220.out
                 have hms54_1 := NB2226_2221.out
                 refine skip_ (w1 := ?_) (by rfl) rfl ?_ ?_
                 rotate_left
                 ·go_simp
                  rfl
                 refine hK.out _ _ trivial (fun hHeld => ?_)
                 clear hK K
                 refine done_ (done_of HT_.out (by kernel_rfl)) ?_
                 have hnb55 := NB2226_2220.out
                 have hnc55 := NB2220_2226.out
                 have hnb56 := NB2226_2221.out
                 have hnc56 := NB2221_2226.out
                 have hcz57_0 : w52.cell? ⟨gb2226, 0, none⟩ = some (.int .i64 0) := (blk_cell BK2226.out 0).trans rfl
                 have hcz57_1 : w52.cell? ⟨gb2226, 1, none⟩ = some (.int .i64 0) := (blk_cell BK2226.out 1).trans rfl
                 have hfz57_0 := blk_frozen BK2226.out 0
                 have hfz57_1 := blk_frozen BK2226.out 1
                 try go_wp2_with (first | ((with_reducible refine gate_callee (f := 197) rfl ?_); refine goesL_ (some 85) rfl rfl Try.func197 (by kernel_rfl) rfl #[.int .i64 (wrap64 (Int.tdiv (wrap64 ((wrap64 (x9_1 * t2219)) - (wrap64 (x10_2 * t2215)))) t2222)), .int .i64 (wrap64 (Int.tdiv (wrap64 ((wrap64 (x10_2 * t2214)) - (wrap64 (x9_1 * t2218)))) t2222))] rfl zn ?_; (with_reducible refine (impl_divisor.calls kj26 (wrap64 (Int.tdiv (wrap64 ((wrap64 (x9_1 * t2219)) - (wrap64 (x10_2 * t2215)))) t2222)) (wrap64 (Int.tdiv (wrap64 ((wrap64 (x10_2 * t2214)) - (wrap64 (x9_1 * t2218)))) t2222)) t2227 _ A33.out).mono ?_); rintro e w58 ⟨rfl, hb⟩; refine ⟨_, rfl, ?_⟩; have n0_ := Aside0.mk (Kd.R_below (by (with_reducible repeat (first | apply Kd.R_alloc | apply Kd.R_drewN | apply Kd.R_drew)); exact (Kd.R_mono (Kd.R_far (p := ⟨gb2226, 1, none⟩) (Kd.R_far (p := ⟨gb2226, 0, none⟩) (Kd.R_mono HO_5.out (fun k_ hk => (⟨hk, hk.2⟩ : _ ∧ k_ ≠ gb2226))) (fun _ hk => hk.2) (.int .i64 (wrap64 (Int.tdiv (wrap64 ((wrap64 (x9_1 * t2219)) - (wrap64 (x10_2 * t2215)))) t2222)))) (fun _ hk => hk.2) (.int .i64 (wrap64 (Int.tdiv (wrap64 ((wrap64 (x10_2 * t2214)) - (wrap64 (x9_1 * t2218)))) t2222)))) (fun _ h_ => h_.1))) hb); have n1_ := Aside0.mk (blk_below (g := gb2220) (o := .cells #[.int .i64 t2214, .int .i64 t2215] 26 (0, 0)) (by (with_reducible repeat (first | refine blk_drewN ?_ _ | refine blk_drew ?_ | refine blk_alloc ?_ _)); refine blk_far ?_ NB2220_2226.out _; (with_reducible repeat (first | refine blk_drewN ?_ _ | refine blk_drew ?_ | refine blk_alloc ?_ _)); refine blk_far ?_ NB2220_2226.out _; (with_reducible repeat (first | refine blk_drewN ?_ _ | refine blk_drew ?_ | refine blk_alloc ?_ _)); exact BK2220.out) hb); have n2_ := Aside0.mk (blk_below (g := gb2221) (o := .cells #[.int .i64 t2218, .int .i64 t2219] 26 (0, 0)) (by (with_reducible repeat (first | refine blk_drewN ?_ _ | refine blk_drew ?_ | refine blk_alloc ?_ _)); refine blk_far ?_ NB2221_2226.out _; (with_reducible repeat (first | refine blk_drewN ?_ _ | refine blk_drew ?_ | refine blk_alloc ?_ _)); refine blk_far ?_ NB2221_2226.out _; (with_reducible repeat (first | refine blk_drewN ?_ _ | refine blk_drew ?_ | refine blk_alloc ?_ _)); exact BK2221.out) hb); have n3_ := Aside0.mk (blk_below (g := gb2226) (o := .cells #[.int .i64 (wrap64 (Int.tdiv (wrap64 ((wrap64 (x9_1 * t2219)) - (wrap64 (x10_2 * t2215)))) t2222)), .int .i64 (wrap64 (Int.tdiv (wrap64 ((wrap64 (x10_2 * t2214)) - (wrap64 (x9_1 * t2218)))) t2222))] 26 (0, 0)) (by (with_reducible repeat (first | refine blk_drewN ?_ _ | refine blk_drew ?_ | refine blk_alloc ?_ _)); refine blk_put (cs := #[.int .i64 (wrap64 (Int.tdiv (wrap64 ((wrap64 (x9_1 * t2219)) - (wrap64 (x10_2 * t2215)))) t2222)), .int .i64 0]) ?_ 1 _ rfl; (with_reducible repeat (first | refine blk_drewN ?_ _ | refine blk_drew ?_ | refine blk_alloc ?_ _)); refine blk_put (cs := #[.int .i64 0, .int .i64 0]) ?_ 0 _ rfl; (with_reducible repeat (first | refine blk_drewN ?_ _ | refine blk_drew ?_ | refine blk_alloc ?_ _)); exact BK2226.out) hb); have n4_ := Aside0.mk (below_step zb hb); clear HO_5; clear BK2220; clear BK2221; clear BK2226; clear HB; have HO_5 := n0_; have BK2220 := n1_; have BK2221 := n2_; have BK2226 := n3_; have HB := n4_; clear n0_ n1_ n2_ n3_ n4_; (try clear hb); (try clear hb2); (try clear hk); (try clear hi); have hcz59_0 : w58.cell? ⟨gb2226, 0, none⟩ = some (.int .i64 (wrap64 (Int.tdiv (wrap64 ((wrap64 (x9_1 * t2219)) - (wrap64 (x10_2 * t2215)))) t2222))) := (blk_cell BK2226.out 0).trans rfl; have hcz59_1 : w58.cell? ⟨gb2226, 1, none⟩ = some (.int .i64 (wrap64 (Int.tdiv (wrap64 ((wrap64 (x10_2 * t2214)) - (wrap64 (x9_1 * t2218)))) t2222))) := (blk_cell BK2226.out 1).trans rfl; have hfz59_0 := blk_frozen BK2226.out 0; have hfz59_1 := blk_frozen BK2226.out 1) | (go_at_call 261; (with_reducible refine (impl_width.calls kj26 _ _ l0 (wrap64 (Int.tdiv (wrap64 ((wrap64 (x9_1 * t2219)) - (wrap64 (x10_2 * t2215)))) t2222)) (wrap64 (Int.tdiv (wrap64 ((wrap64 (x10_2 * t2214)) - (wrap64 (x9_1 * t2218)))) t2222)) t2228 _ ?side1 ?side2 A36.out).mono ?_); (case side1 => repeat (first | exact (Kd.C_below HR0.out HB.out) | (with_reducible refine Kd.C_alloc ?_ _) | (with_reducible refine Kd.C_drewN ?_ _) | (with_reducible refine Kd.C_drew ?_))); (case side2 => exact HC0.out); rintro e w60 ⟨rfl, hb⟩; have n0_ := Aside0.mk (Kd.R_below (by (with_reducible repeat (first | apply Kd.R_alloc | apply Kd.R_drewN | apply Kd.R_drew)); exact HO_5.out) hb); have n1_ := Aside0.mk (blk_below (g := gb2220) (o := .cells #[.int .i64 t2214, .int .i64 t2215] 26 (0, 0)) zk hb); have n2_ := Aside0.mk (blk_below (g := gb2221) (o := .cells #[.int .i64 t2218, .int .i64 t2219] 26 (0, 0)) zk hb); have n3_ := Aside0.mk (blk_below (g := gb2226) (o := .cells #[.int .i64 (wrap64 (Int.tdiv (wrap64 ((wrap64 (x9_1 * t2219)) - (wrap64 (x10_2 * t2215)))) t2222)), .int .i64 (wrap64 (Int.tdiv (wrap64 ((wrap64 (x10_2 * t2214)) - (wrap64 (x9_1 * t2218)))) t2222))] 26 (0, 0)) zk hb); have n4_ := Aside0.mk (below_step zb hb); clear HO_5; clear BK2220; clear BK2221; clear BK2226; clear HB; have HO_5 := n0_; have BK2220 := n1_; have BK2221 := n2_; have BK2226 := n3_; have HB := n4_; clear n0_ n1_ n2_ n3_ n4_; (try clear hb); (try clear hb2); (try clear hk); (try clear hi)))
                 go_roundg kj26
                 case measure => have := HK1.out; have := HK2.out; have := HJ26.out; omega
                 case rel => exact ⟨(x5_2), (wrap64 (x10_2 + 1)), (by first | rfl | (simp; done) | (simp [*]; done)), H', ⟨by have := HK1.out; have := HK2.out; have := HJ26.out; omega⟩, ⟨by (with_reducible repeat (first | apply Kd.R_alloc | apply Kd.R_drewN | apply Kd.R_drew)); exact Kd.R_mono HO_5.out (fun _ hk => ⟨hk.1.1, hk.1.2⟩)⟩, ⟨zk⟩, ⟨zk⟩, ⟨zb⟩⟩
               ·rw [if_neg c35] at H
                have c35b0 : decide (0 < (wrap64 (Int.tdiv (wrap64 ((wrap64 (x9_1 * t2219)) - (wrap64 (x10_2 * t2215)))) t2222))) = false := decide_eq_false c35
                clear c35
                by_cases c61 : (wrap64 (Int.tdiv (wrap64 ((wrap64 (x9_1 * t2219)) - (wrap64 (x10_2 * t2215)))) t2222)) = 0
                ·rw [if_pos c61] at H
                 have c61b0 : ((wrap64 (Int.tdiv (wrap64 ((wrap64 (x9_1 * t2219)) - (wrap64 (x10_2 * t2215)))) t2222)) == 0) = true := beq_iff_eq.mpr c61
                 have c61b1 : ((wrap64 (Int.tdiv (wrap64 ((wrap64 (x9_1 * t2219)) - (wrap64 (x10_2 * t2215)))) t2222)) != 0) = false := bne_eq_false_iff_eq.mpr c61
                 clear c61
                 by_cases c62 : (wrap64 (Int.tdiv (wrap64 ((wrap64 (x10_2 * t2214)) - (wrap64 (x9_1 * t2218)))) t2222)) = 1
                 ·rw [if_pos c62] at H
                  have c62b0 : ((wrap64 (Int.tdiv (wrap64 ((wrap64 (x10_2 * t2214)) - (wrap64 (x9_1 * t2218)))) t2222)) == 1) = true := beq_iff_eq.mpr c62
                  have c62b1 : ((wrap64 (Int.tdiv (wrap64 ((wrap64 (x10_2 * t2214)) - (wrap64 (x9_1 * t2218)))) t2222)) != 1) = false := bne_eq_false_iff_eq.mpr c62
                  clear c62
                  replace H := Option.bind_eq_some_iff.mp H
                  obtain ⟨t2232, A630, H⟩ := H
                  replace H : (if t2232 ≤ a1 then (if x5_2.length < 8796093022208 then (impl_directions.l1 kj26 l0 a1 (x5_2 ++ [(⟨wrap64 (Int.tdiv (wrap64 ((wrap64 (x9_1 * t2219)) - (wrap64 (x10_2 * t2215)))) t2222), wrap64 (Int.tdiv (wrap64 ((wrap64 (x10_2 * t2214)) - (wrap64 (x9_1 * t2218)))) t2222)⟩ : S26)]) t2222 x9_1 (wrap64 (x10_2 + 1)) t2214 t2215 t2218 t2219) else (none)) else (impl_directions.l1 kj26 l0 a1 x5_2 t2222 x9_1 (wrap64 (x10_2 + 1)) t2214 t2215 t2218 t2219)) = some r := H
                  have A63 := Aside0.mk A630
                  clear A630
                  by_cases c64 : t2232 ≤ a1
                  ·rw [if_pos c64] at H
                   have c64b0 : decide (t2232 ≤ a1) = true := decide_eq_true c64
                   clear c64
                   by_cases c65 : x5_2.length < 8796093022208
                   ·rw [if_pos c65] at H
                    have LMc65 := Aside0.mk c65
                    clear c65
                    obtain ⟨y2233, hy2233⟩ : ∃ y_ : List (S26), y_ = (x5_2 ++ [(⟨wrap64 (Int.tdiv (wrap64 ((wrap64 (x9_1 * t2219)) - (wrap64 (x10_2 * t2215)))) t2222), wrap64 (Int.tdiv (wrap64 ((wrap64 (x10_2 * t2214)) - (wrap64 (x9_1 * t2218)))) t2222)⟩ : S26)]) := ⟨_, rfl⟩
                    replace H : (impl_directions.l1 kj26 l0 a1 y2233 t2222 x9_1 (wrap64 (x10_2 + 1)) t2214 t2215 t2218 t2219) = some r := by first | (rw [hy2233]; with_reducible exact H) | (have H2_ := (Option.bind_some _ _).symm.trans H; rw [hy2233]; with_reducible exact H2_) | (have H2_ := (Option.bind_some _ _).symm.trans H; with_reducible exact H2_) | with_reducible exact H | (rw [hy2233]; exact H) | exact H
                    have Ny2233 := Aside0.mk hy2233
                    clear hy2233
                    have H' := Aside0.mk H
                    clear H
                    try go_wp2
                    have n0_ := Aside0.mk (Kd.R_drew HO_5.out)
                    have n1_ := Aside0.mk (blk_drew BK2220.out)
                    have n2_ := Aside0.mk (blk_drew BK2221.out)
                    have n3_ := Aside0.mk (below_drew1 HB.out)
                    clear HO_5
                    clear BK2220
                    clear BK2221
                    clear HB
                    have HO_5 := n0_
                    have BK2220 := n1_
                    have BK2221 := n2_
                    have HB := n3_
                    clear n0_ n1_ n2_ n3_
                    refine start_ (n := 9) (S := fun w' => True) (ds := []) (zl 9 0) (by kernel_rfl) rfl rfl trivial (fun hHeld => ?_); refine with_tabW impl_directions.tab12 impl_directions.bits12 (fun HT_ HW_ => ?_)
                    generalize wc.drew = w66 at HO_5 BK2220 BK2221 HB hHeld ⊢
                    refine zp 0 74 9 1 HT_ ?_
                    refine zp 1 75 9 3 HT_ ?_
                    refine zp 2 76 9 7 HT_ ?_
                    refine zp 3 77 9 15 HT_ ?_
                    refine zp 4 78 9 31 HT_ ?_
                    refine zp 5 79 9 63 HT_ ?_
                    refine zp 6 80 9 127 HT_ ?_
                    refine one_ (i := 7) (N := some 13) (zl 9 255) rfl rfl (one_of HT_.out (by kernel_rfl)) (by decide) (fun K hK => ?_)
                    refine box_step ?hg (N := 13) ?hd (cs := #[.int .i64 0, .int .i64 0]) (t := 26) ?hr ?_; (case hd => rfl); (case hg => rfl); (case hr => first | (go_simp; done) | (go_simp; rfl))
                    intro gb2226 hg w67 hbox hb
                    have n0_ := Aside0.mk (Kd.R_below (Kd.R_elderB (by (with_reducible repeat (first | apply Kd.R_alloc | apply Kd.R_drewN | apply Kd.R_drew)); exact HO_5.out) gb2226 (Nat.le_of_eq hg.symm)) hb)
                    have n1_ := Aside0.mk (blk_below (g := gb2220) (o := .cells #[.int .i64 t2214, .int .i64 t2215] 26 (0, 0)) zk hb)
                    have n2_ := Aside0.mk (blk_below (g := gb2221) (o := .cells #[.int .i64 t2218, .int .i64 t2219] 26 (0, 0)) zk hb)
                    have n3_ := Aside0.mk (below_step zb hb)
                    have n4_ := Aside0.mk (hbox)
                    have n5_ := Aside0.mk ((by rw [hg]; exact (below_size zb) : w.heap.size ≤ gb2226))
                    have n6_ := Aside0.mk ((by rw [hg]; exact (below_size zb) : w.heap.size ≤ gb2226))
                    have n7_ := Aside0.mk ((by rw [hg]; exact Nat.ne_of_lt (blk_lt (g := gb2220) (o := .cells #[.int .i64 t2214, .int .i64 t2215] 26 (0, 0)) zk) : gb2220 ≠ gb2226))
                    have n8_ := Aside0.mk ((by rw [hg]; exact Nat.ne_of_gt (blk_lt (g := gb2220) (o := .cells #[.int .i64 t2214, .int .i64 t2215] 26 (0, 0)) zk) : gb2226 ≠ gb2220))
                    have n9_ := Aside0.mk ((by rw [hg]; exact Nat.ne_of_lt (blk_lt (g := gb2221) (o := .cells #[.int .i64 t2218, .int .i64 t2219] 26 (0, 0)) zk) : gb2221 ≠ gb2226))
                    have n10_ := Aside0.mk ((by rw [hg]; exact Nat.ne_of_gt (blk_lt (g := gb2221) (o := .cells #[.int .i64 t2218, .int .i64 t2219] 26 (0, 0)) zk) : gb2226 ≠ gb2221))
                    clear HO_5
                    clear BK2220
                    clear BK2221
                    clear HB
                    have HO_5 := n0_
                    have BK2220 := n1_
                    have BK2221 := n2_
                    have HB := n3_
                    have BK2226 := n4_
                    have GW2226 := n5_
                    have GE2226 := n6_
                    have NB2220_2226 := n7_
                    have NB2226_2220 := n8_
                    have NB2221_2226 := n9_
                    have NB2226_2221 := n10_
                    clear n0_ n1_ n2_ n3_ n4_ n5_ n6_ n7_ n8_ n9_ n10_
                    clear hb hbox hg
                    refine hK.out _ _ trivial (fun hHeld => ?_)
                    clear hK K
                    refine norm_ (a' := ?_) ?_ ?_
                    rotate_left
                    ·show Act.put _ (some 13) _ = _
                     exact zs
                    refine one_ (i := 8) (N := none) (zl 9 511) rfl rfl (one_of HT_.out (by kernel_rfl)) (by decide) (fun K hK => ?_)
                    have hs68 : w67.cell? ⟨gb2226, 0, none⟩ = some (.int .i64 0) := (blk_cell BK2226.out 0).trans rfl
                    have hfs68 := blk_frozen BK2226.out 0
                    have hns68_0 := NB2220_2226.out
                    have hns68_1 := NB2221_2226.out
                    have hms68_0 := NB2226_2220.out
                    have hms68_1 := NB2226_2221.out
                    have hs69 : w67.cell? ⟨gb2226, 1, none⟩ = some (.int .i64 0) := (blk_cell BK2226.out 1).trans rfl
                    have hfs69 := blk_frozen BK2226.out 1
                    have hns69_0 := NB2220_2226.out
                    have hns69_1 := NB2221_2226.out
                    have hms69_0 := NB2226_2220.out
                    have hms69_1 := NB2226_2221.out
                    refine skip_ (w1 := ?_) (by rfl) rfl ?_ ?_
                    rotate_left
                    ·go_simp
                     rfl
                    refine hK.out _ _ trivial (fun hHeld => ?_)
                    clear hK K
                    refine done_ (done_of HT_.out (by kernel_rfl)) ?_
                    have hnb70 := NB2226_2220.out
                    have hnc70 := NB2220_2226.out
                    have hnb71 := NB2226_2221.out
                    have hnc71 := NB2221_2226.out
                    have hcz72_0 : w67.cell? ⟨gb2226, 0, none⟩ = some (.int .i64 0) := (blk_cell BK2226.out 0).trans rfl
                    have hcz72_1 : w67.cell? ⟨gb2226, 1, none⟩ = some (.int .i64 0) := (blk_cell BK2226.out 1).trans rfl
                    have hfz72_0 := blk_frozen BK2226.out 0
                    have hfz72_1 := blk_frozen BK2226.out 1
                    try go_wp2_with (first | ((with_reducible refine gate_callee (f := 197) rfl ?_); refine goesL_ (some 85) rfl rfl Try.func197 (by kernel_rfl) rfl #[.int .i64 (wrap64 (Int.tdiv (wrap64 ((wrap64 (x9_1 * t2219)) - (wrap64 (x10_2 * t2215)))) t2222)), .int .i64 (wrap64 (Int.tdiv (wrap64 ((wrap64 (x10_2 * t2214)) - (wrap64 (x9_1 * t2218)))) t2222))] rfl zn ?_; (with_reducible refine (impl_divisor.calls kj26 (wrap64 (Int.tdiv (wrap64 ((wrap64 (x9_1 * t2219)) - (wrap64 (x10_2 * t2215)))) t2222)) (wrap64 (Int.tdiv (wrap64 ((wrap64 (x10_2 * t2214)) - (wrap64 (x9_1 * t2218)))) t2222)) t2227 _ A33.out).mono ?_); rintro e w73 ⟨rfl, hb⟩; refine ⟨_, rfl, ?_⟩; have n0_ := Aside0.mk (Kd.R_below (by (with_reducible repeat (first | apply Kd.R_alloc | apply Kd.R_drewN | apply Kd.R_drew)); exact (Kd.R_mono (Kd.R_far (p := ⟨gb2226, 1, none⟩) (Kd.R_far (p := ⟨gb2226, 0, none⟩) (Kd.R_mono HO_5.out (fun k_ hk => (⟨hk, hk.2⟩ : _ ∧ k_ ≠ gb2226))) (fun _ hk => hk.2) (.int .i64 (wrap64 (Int.tdiv (wrap64 ((wrap64 (x9_1 * t2219)) - (wrap64 (x10_2 * t2215)))) t2222)))) (fun _ hk => hk.2) (.int .i64 (wrap64 (Int.tdiv (wrap64 ((wrap64 (x10_2 * t2214)) - (wrap64 (x9_1 * t2218)))) t2222)))) (fun _ h_ => h_.1))) hb); have n1_ := Aside0.mk (blk_below (g := gb2220) (o := .cells #[.int .i64 t2214, .int .i64 t2215] 26 (0, 0)) (by (with_reducible repeat (first | refine blk_drewN ?_ _ | refine blk_drew ?_ | refine blk_alloc ?_ _)); refine blk_far ?_ NB2220_2226.out _; (with_reducible repeat (first | refine blk_drewN ?_ _ | refine blk_drew ?_ | refine blk_alloc ?_ _)); refine blk_far ?_ NB2220_2226.out _; (with_reducible repeat (first | refine blk_drewN ?_ _ | refine blk_drew ?_ | refine blk_alloc ?_ _)); exact BK2220.out) hb); have n2_ := Aside0.mk (blk_below (g := gb2221) (o := .cells #[.int .i64 t2218, .int .i64 t2219] 26 (0, 0)) (by (with_reducible repeat (first | refine blk_drewN ?_ _ | refine blk_drew ?_ | refine blk_alloc ?_ _)); refine blk_far ?_ NB2221_2226.out _; (with_reducible repeat (first | refine blk_drewN ?_ _ | refine blk_drew ?_ | refine blk_alloc ?_ _)); refine blk_far ?_ NB2221_2226.out _; (with_reducible repeat (first | refine blk_drewN ?_ _ | refine blk_drew ?_ | refine blk_alloc ?_ _)); exact BK2221.out) hb); have n3_ := Aside0.mk (blk_below (g := gb2226) (o := .cells #[.int .i64 (wrap64 (Int.tdiv (wrap64 ((wrap64 (x9_1 * t2219)) - (wrap64 (x10_2 * t2215)))) t2222)), .int .i64 (wrap64 (Int.tdiv (wrap64 ((wrap64 (x10_2 * t2214)) - (wrap64 (x9_1 * t2218)))) t2222))] 26 (0, 0)) (by (with_reducible repeat (first | refine blk_drewN ?_ _ | refine blk_drew ?_ | refine blk_alloc ?_ _)); refine blk_put (cs := #[.int .i64 (wrap64 (Int.tdiv (wrap64 ((wrap64 (x9_1 * t2219)) - (wrap64 (x10_2 * t2215)))) t2222)), .int .i64 0]) ?_ 1 _ rfl; (with_reducible repeat (first | refine blk_drewN ?_ _ | refine blk_drew ?_ | refine blk_alloc ?_ _)); refine blk_put (cs := #[.int .i64 0, .int .i64 0]) ?_ 0 _ rfl; (with_reducible repeat (first | refine blk_drewN ?_ _ | refine blk_drew ?_ | refine blk_alloc ?_ _)); exact BK2226.out) hb); have n4_ := Aside0.mk (below_step zb hb); clear HO_5; clear BK2220; clear BK2221; clear BK2226; clear HB; have HO_5 := n0_; have BK2220 := n1_; have BK2221 := n2_; have BK2226 := n3_; have HB := n4_; clear n0_ n1_ n2_ n3_ n4_; (try clear hb); (try clear hb2); (try clear hk); (try clear hi); have hcz74_0 : w73.cell? ⟨gb2226, 0, none⟩ = some (.int .i64 (wrap64 (Int.tdiv (wrap64 ((wrap64 (x9_1 * t2219)) - (wrap64 (x10_2 * t2215)))) t2222))) := (blk_cell BK2226.out 0).trans rfl; have hcz74_1 : w73.cell? ⟨gb2226, 1, none⟩ = some (.int .i64 (wrap64 (Int.tdiv (wrap64 ((wrap64 (x10_2 * t2214)) - (wrap64 (x9_1 * t2218)))) t2222))) := (blk_cell BK2226.out 1).trans rfl; have hfz74_0 := blk_frozen BK2226.out 0; have hfz74_1 := blk_frozen BK2226.out 1) | (go_at_call 261; (with_reducible refine (impl_width.calls kj26 _ _ l0 (wrap64 (Int.tdiv (wrap64 ((wrap64 (x9_1 * t2219)) - (wrap64 (x10_2 * t2215)))) t2222)) (wrap64 (Int.tdiv (wrap64 ((wrap64 (x10_2 * t2214)) - (wrap64 (x9_1 * t2218)))) t2222)) t2232 _ ?side1 ?side2 A63.out).mono ?_); (case side1 => repeat (first | exact (Kd.C_below HR0.out HB.out) | (with_reducible refine Kd.C_alloc ?_ _) | (with_reducible refine Kd.C_drewN ?_ _) | (with_reducible refine Kd.C_drew ?_))); (case side2 => exact HC0.out); rintro e w75 ⟨rfl, hb⟩; have n0_ := Aside0.mk (Kd.R_below (by (with_reducible repeat (first | apply Kd.R_alloc | apply Kd.R_drewN | apply Kd.R_drew)); exact HO_5.out) hb); have n1_ := Aside0.mk (blk_below (g := gb2220) (o := .cells #[.int .i64 t2214, .int .i64 t2215] 26 (0, 0)) zk hb); have n2_ := Aside0.mk (blk_below (g := gb2221) (o := .cells #[.int .i64 t2218, .int .i64 t2219] 26 (0, 0)) zk hb); have n3_ := Aside0.mk (blk_below (g := gb2226) (o := .cells #[.int .i64 (wrap64 (Int.tdiv (wrap64 ((wrap64 (x9_1 * t2219)) - (wrap64 (x10_2 * t2215)))) t2222)), .int .i64 (wrap64 (Int.tdiv (wrap64 ((wrap64 (x10_2 * t2214)) - (wrap64 (x9_1 * t2218)))) t2222))] 26 (0, 0)) zk hb); have n4_ := Aside0.mk (below_step zb hb); clear HO_5; clear BK2220; clear BK2221; clear BK2226; clear HB; have HO_5 := n0_; have BK2220 := n1_; have BK2221 := n2_; have BK2226 := n3_; have HB := n4_; clear n0_ n1_ n2_ n3_ n4_; (try clear hb); (try clear hb2); (try clear hk); (try clear hi); have hcz76_0 : w75.cell? ⟨gb2226, 0, none⟩ = some (.int .i64 (wrap64 (Int.tdiv (wrap64 ((wrap64 (x9_1 * t2219)) - (wrap64 (x10_2 * t2215)))) t2222))) := (blk_cell BK2226.out 0).trans rfl; have hcz76_1 : w75.cell? ⟨gb2226, 1, none⟩ = some (.int .i64 (wrap64 (Int.tdiv (wrap64 ((wrap64 (x10_2 * t2214)) - (wrap64 (x9_1 * t2218)))) t2222))) := (blk_cell BK2226.out 1).trans rfl; have hfz76_0 := blk_frozen BK2226.out 0; have hfz76_1 := blk_frozen BK2226.out 1) | ((with_reducible refine gate_builtin (b := .append) (xs := #[.tmp 109, .tmp 111]) rfl ?_); at_builtin; refine Kd.R_append k26 (w0 := w) w.heap.size rfl (.tmp 109) (.tmp 111) 24 26 (.agg #[(.int .i64 0), (.int .i64 0)]) 16 rfl Try.underlying24 info26 rfl (by decide) (by omega) u5 x5_2 (⟨wrap64 (Int.tdiv (wrap64 ((wrap64 (x9_1 * t2219)) - (wrap64 (x10_2 * t2215)))) t2222), wrap64 (Int.tdiv (wrap64 ((wrap64 (x10_2 * t2214)) - (wrap64 (x9_1 * t2218)))) t2222)⟩ : S26) [.int .i64 (wrap64 (Int.tdiv (wrap64 ((wrap64 (x9_1 * t2219)) - (wrap64 (x10_2 * t2215)))) t2222)), .int .i64 (wrap64 (Int.tdiv (wrap64 ((wrap64 (x10_2 * t2214)) - (wrap64 (x9_1 * t2218)))) t2222))] (fun k_ => k_ ≠ gb2220 ∧ k_ ≠ gb2221 ∧ k_ ≠ gb2226) (fun _ => False) rfl rfl ?aP (fun _ hk => hk.elim) ?aF ?aO ?aB ?aS ?aL ?_; (case aP => exact k26_mkM _ _ _ (⟨wrap64 (Int.tdiv (wrap64 ((wrap64 (x9_1 * t2219)) - (wrap64 (x10_2 * t2215)))) t2222), wrap64 (Int.tdiv (wrap64 ((wrap64 (x10_2 * t2214)) - (wrap64 (x9_1 * t2218)))) t2222)⟩ : S26)); (case aB => exact zb); (case aF => exact (fun k_ hk => ⟨Kd.freshB (g := gb2220) (o := .cells #[.int .i64 t2214, .int .i64 t2215] 26 (0, 0)) zk k_ hk, Kd.freshB (g := gb2221) (o := .cells #[.int .i64 t2218, .int .i64 t2219] 26 (0, 0)) zk k_ hk, Kd.freshB (g := gb2226) (o := .cells #[.int .i64 (wrap64 (Int.tdiv (wrap64 ((wrap64 (x9_1 * t2219)) - (wrap64 (x10_2 * t2215)))) t2222)), .int .i64 (wrap64 (Int.tdiv (wrap64 ((wrap64 (x10_2 * t2214)) - (wrap64 (x9_1 * t2218)))) t2222))] 26 (0, 0)) zk k_ hk⟩)); (case aO => exact (by (with_reducible repeat (first | apply Kd.R_alloc | apply Kd.R_drewN | apply Kd.R_drew)); exact Kd.R_mono HO_5.out (fun _ hk => ⟨hk.1.1, ⟨hk.1.2, hk.2⟩⟩))); (case aS => exact (below_size zb)); (case aL => have := LMc65.out; omega); intro v2234 w77 ho hb hg hat; rw [← Ny2233.out] at ho; have n0_ := Aside0.mk (blk_grown (g := gb2220) (o := .cells #[.int .i64 t2214, .int .i64 t2215] 26 (0, 0)) zk hg (Kd.R_away HO_5.out (fun _ hk => hk.1.1))); have n1_ := Aside0.mk (blk_grown (g := gb2221) (o := .cells #[.int .i64 t2218, .int .i64 t2219] 26 (0, 0)) zk hg (Kd.R_away HO_5.out (fun _ hk => hk.1.2))); have n2_ := Aside0.mk (blk_grown (g := gb2226) (o := .cells #[.int .i64 (wrap64 (Int.tdiv (wrap64 ((wrap64 (x9_1 * t2219)) - (wrap64 (x10_2 * t2215)))) t2222)), .int .i64 (wrap64 (Int.tdiv (wrap64 ((wrap64 (x10_2 * t2214)) - (wrap64 (x9_1 * t2218)))) t2222))] 26 (0, 0)) zk hg (Kd.R_away HO_5.out (fun _ hk => hk.2))); have n3_ := Aside0.mk (hb); have n4_ := Aside0.mk (ho); clear BK2220; clear BK2221; clear BK2226; clear HB; clear HO_5; have BK2220 := n0_; have BK2221 := n1_; have BK2226 := n2_; have HB := n3_; have HO2235 := n4_; clear n0_ n1_ n2_ n3_ n4_; clear ho hb hg hat))
                    go_roundg kj26
                    case measure => have := HK1.out; have := HK2.out; have := HJ26.out; omega
                    case rel => exact ⟨(y2233), (wrap64 (x10_2 + 1)), (by first | rfl | (simp; done) | (simp [*]; done)), H', ⟨by have := HK1.out; have := HK2.out; have := HJ26.out; omega⟩, ⟨by (with_reducible repeat (first | apply Kd.R_alloc | apply Kd.R_drewN | apply Kd.R_drew)); exact Kd.R_mono HO2235.out (fun _ hk => ⟨hk.1, hk.2.1⟩)⟩, ⟨zk⟩, ⟨zk⟩, ⟨zb⟩⟩
                   ·rw [if_neg c65] at H
                    exact absurd H (by simp)
                  ·rw [if_neg c64] at H
                   have c64b0 : decide (t2232 ≤ a1) = false := decide_eq_false c64
                   clear c64
                   have H' := Aside0.mk H
                   clear H
                   try go_wp2
                   have n0_ := Aside0.mk (Kd.R_drew HO_5.out)
                   have n1_ := Aside0.mk (blk_drew BK2220.out)
                   have n2_ := Aside0.mk (blk_drew BK2221.out)
                   have n3_ := Aside0.mk (below_drew1 HB.out)
                   clear HO_5
                   clear BK2220
                   clear BK2221
                   clear HB
                   have HO_5 := n0_
                   have BK2220 := n1_
                   have BK2221 := n2_
                   have HB := n3_
                   clear n0_ n1_ n2_ n3_
                   refine start_ (n := 9) (S := fun w' => True) (ds := []) (zl 9 0) (by kernel_rfl) rfl rfl trivial (fun hHeld => ?_); refine with_tabW impl_directions.tab12 impl_directions.bits12 (fun HT_ HW_ => ?_)
                   generalize wc.drew = w78 at HO_5 BK2220 BK2221 HB hHeld ⊢
                   refine zp 0 74 9 1 HT_ ?_
                   refine zp 1 75 9 3 HT_ ?_
                   refine zp 2 76 9 7 HT_ ?_
                   refine zp 3 77 9 15 HT_ ?_
                   refine zp 4 78 9 31 HT_ ?_
                   refine zp 5 79 9 63 HT_ ?_
                   refine zp 6 80 9 127 HT_ ?_
                   refine one_ (i := 7) (N := some 13) (zl 9 255) rfl rfl (one_of HT_.out (by kernel_rfl)) (by decide) (fun K hK => ?_)
                   refine box_step ?hg (N := 13) ?hd (cs := #[.int .i64 0, .int .i64 0]) (t := 26) ?hr ?_; (case hd => rfl); (case hg => rfl); (case hr => first | (go_simp; done) | (go_simp; rfl))
                   intro gb2226 hg w79 hbox hb
                   have n0_ := Aside0.mk (Kd.R_below (Kd.R_elderB (by (with_reducible repeat (first | apply Kd.R_alloc | apply Kd.R_drewN | apply Kd.R_drew)); exact HO_5.out) gb2226 (Nat.le_of_eq hg.symm)) hb)
                   have n1_ := Aside0.mk (blk_below (g := gb2220) (o := .cells #[.int .i64 t2214, .int .i64 t2215] 26 (0, 0)) zk hb)
                   have n2_ := Aside0.mk (blk_below (g := gb2221) (o := .cells #[.int .i64 t2218, .int .i64 t2219] 26 (0, 0)) zk hb)
                   have n3_ := Aside0.mk (below_step zb hb)
                   have n4_ := Aside0.mk (hbox)
                   have n5_ := Aside0.mk ((by rw [hg]; exact (below_size zb) : w.heap.size ≤ gb2226))
                   have n6_ := Aside0.mk ((by rw [hg]; exact (below_size zb) : w.heap.size ≤ gb2226))
                   have n7_ := Aside0.mk ((by rw [hg]; exact Nat.ne_of_lt (blk_lt (g := gb2220) (o := .cells #[.int .i64 t2214, .int .i64 t2215] 26 (0, 0)) zk) : gb2220 ≠ gb2226))
                   have n8_ := Aside0.mk ((by rw [hg]; exact Nat.ne_of_gt (blk_lt (g := gb2220) (o := .cells #[.int .i64 t2214, .int .i64 t2215] 26 (0, 0)) zk) : gb2226 ≠ gb2220))
                   have n9_ := Aside0.mk ((by rw [hg]; exact Nat.ne_of_lt (blk_lt (g := gb2221) (o := .cells #[.int .i64 t2218, .int .i64 t2219] 26 (0, 0)) zk) : gb2221 ≠ gb2226))
                   have n10_ := Aside0.mk ((by rw [hg]; exact Nat.ne_of_gt (blk_lt (g := gb2221) (o := .cells #[.int .i64 t2218, .int .i64 t2219] 26 (0, 0)) zk) : gb2226 ≠ gb2221))
                   clear HO_5
                   clear BK2220
                   clear BK2221
                   clear HB
                   have HO_5 := n0_
                   have BK2220 := n1_
                   have BK2221 := n2_
                   have HB := n3_
                   have BK2226 := n4_
                   have GW2226 := n5_
                   have GE2226 := n6_
                   have NB2220_2226 := n7_
                   have NB2226_2220 := n8_
                   have NB2221_2226 := n9_
                   have NB2226_2221 := n10_
                   clear n0_ n1_ n2_ n3_ n4_ n5_ n6_ n7_ n8_ n9_ n10_
                   clear hb hbox hg
                   refine hK.out _ _ trivial (fun hHeld => ?_)
                   clear hK K
                   refine norm_ (a' := ?_) ?_ ?_
                   rotate_left
                   ·show Act.put _ (some 13) _ = _
                    exact zs
                   refine one_ (i := 8) (N := none) (zl 9 511) rfl rfl (one_of HT_.out (by kernel_rfl)) (by decide) (fun K hK => ?_)
                   have hs80 : w79.cell? ⟨gb2226, 0, none⟩ = some (.int .i64 0) := (blk_cell BK2226.out 0).trans rfl
                   have hfs80 := blk_frozen BK2226.out 0
                   have hns80_0 := NB2220_2226.out
                   have hns80_1 := NB2221_2226.out
                   have hms80_0 := NB2226_2220.out
                   have hms80_1 := NB2226_2221.out
                   have hs81 : w79.cell? ⟨gb2226, 1, none⟩ = some (.int .i64 0) := (blk_cell BK2226.out 1).trans rfl
                   have hfs81 := blk_frozen BK2226.out 1
                   have hns81_0 := NB2220_2226.out
                   have hns81_1 := NB2221_2226.out
                   have hms81_0 := NB2226_2220.out
                   have hms81_1 := NB2226_2221.out
                   refine skip_ (w1 := ?_) (by rfl) rfl ?_ ?_
                   rotate_left
                   ·go_simp
                    rfl
                   refine hK.out _ _ trivial (fun hHeld => ?_)
                   clear hK K
                   refine done_ (done_of HT_.out (by kernel_rfl)) ?_
                   have hnb82 := NB2226_2220.out
                   have hnc82 := NB2220_2226.out
                   have hnb83 := NB2226_2221.out
                   have hnc83 := NB2221_2226.out
                   have hcz84_0 : w79.cell? ⟨gb2226, 0, none⟩ = some (.int .i64 0) := (blk_cell BK2226.out 0).trans rfl
                   have hcz84_1 : w79.cell? ⟨gb2226, 1, none⟩ = some (.int .i64 0) := (blk_cell BK2226.out 1).trans rfl
                   have hfz84_0 := blk_frozen BK2226.out 0
                   have hfz84_1 := blk_frozen BK2226.out 1
                   try go_wp2_with (first | ((with_reducible refine gate_callee (f := 197) rfl ?_); refine goesL_ (some 85) rfl rfl Try.func197 (by kernel_rfl) rfl #[.int .i64 (wrap64 (Int.tdiv (wrap64 ((wrap64 (x9_1 * t2219)) - (wrap64 (x10_2 * t2215)))) t2222)), .int .i64 (wrap64 (Int.tdiv (wrap64 ((wrap64 (x10_2 * t2214)) - (wrap64 (x9_1 * t2218)))) t2222))] rfl zn ?_; (with_reducible refine (impl_divisor.calls kj26 (wrap64 (Int.tdiv (wrap64 ((wrap64 (x9_1 * t2219)) - (wrap64 (x10_2 * t2215)))) t2222)) (wrap64 (Int.tdiv (wrap64 ((wrap64 (x10_2 * t2214)) - (wrap64 (x9_1 * t2218)))) t2222)) t2227 _ A33.out).mono ?_); rintro e w85 ⟨rfl, hb⟩; refine ⟨_, rfl, ?_⟩; have n0_ := Aside0.mk (Kd.R_below (by (with_reducible repeat (first | apply Kd.R_alloc | apply Kd.R_drewN | apply Kd.R_drew)); exact (Kd.R_mono (Kd.R_far (p := ⟨gb2226, 1, none⟩) (Kd.R_far (p := ⟨gb2226, 0, none⟩) (Kd.R_mono HO_5.out (fun k_ hk => (⟨hk, hk.2⟩ : _ ∧ k_ ≠ gb2226))) (fun _ hk => hk.2) (.int .i64 (wrap64 (Int.tdiv (wrap64 ((wrap64 (x9_1 * t2219)) - (wrap64 (x10_2 * t2215)))) t2222)))) (fun _ hk => hk.2) (.int .i64 (wrap64 (Int.tdiv (wrap64 ((wrap64 (x10_2 * t2214)) - (wrap64 (x9_1 * t2218)))) t2222)))) (fun _ h_ => h_.1))) hb); have n1_ := Aside0.mk (blk_below (g := gb2220) (o := .cells #[.int .i64 t2214, .int .i64 t2215] 26 (0, 0)) (by (with_reducible repeat (first | refine blk_drewN ?_ _ | refine blk_drew ?_ | refine blk_alloc ?_ _)); refine blk_far ?_ NB2220_2226.out _; (with_reducible repeat (first | refine blk_drewN ?_ _ | refine blk_drew ?_ | refine blk_alloc ?_ _)); refine blk_far ?_ NB2220_2226.out _; (with_reducible repeat (first | refine blk_drewN ?_ _ | refine blk_drew ?_ | refine blk_alloc ?_ _)); exact BK2220.out) hb); have n2_ := Aside0.mk (blk_below (g := gb2221) (o := .cells #[.int .i64 t2218, .int .i64 t2219] 26 (0, 0)) (by (with_reducible repeat (first | refine blk_drewN ?_ _ | refine blk_drew ?_ | refine blk_alloc ?_ _)); refine blk_far ?_ NB2221_2226.out _; (with_reducible repeat (first | refine blk_drewN ?_ _ | refine blk_drew ?_ | refine blk_alloc ?_ _)); refine blk_far ?_ NB2221_2226.out _; (with_reducible repeat (first | refine blk_drewN ?_ _ | refine blk_drew ?_ | refine blk_alloc ?_ _)); exact BK2221.out) hb); have n3_ := Aside0.mk (blk_below (g := gb2226) (o := .cells #[.int .i64 (wrap64 (Int.tdiv (wrap64 ((wrap64 (x9_1 * t2219)) - (wrap64 (x10_2 * t2215)))) t2222)), .int .i64 (wrap64 (Int.tdiv (wrap64 ((wrap64 (x10_2 * t2214)) - (wrap64 (x9_1 * t2218)))) t2222))] 26 (0, 0)) (by (with_reducible repeat (first | refine blk_drewN ?_ _ | refine blk_drew ?_ | refine blk_alloc ?_ _)); refine blk_put (cs := #[.int .i64 (wrap64 (Int.tdiv (wrap64 ((wrap64 (x9_1 * t2219)) - (wrap64 (x10_2 * t2215)))) t2222)), .int .i64 0]) ?_ 1 _ rfl; (with_reducible repeat (first | refine blk_drewN ?_ _ | refine blk_drew ?_ | refine blk_alloc ?_ _)); refine blk_put (cs := #[.int .i64 0, .int .i64 0]) ?_ 0 _ rfl; (with_reducible repeat (first | refine blk_drewN ?_ _ | refine blk_drew ?_ | refine blk_alloc ?_ _)); exact BK2226.out) hb); have n4_ := Aside0.mk (below_step zb hb); clear HO_5; clear BK2220; clear BK2221; clear BK2226; clear HB; have HO_5 := n0_; have BK2220 := n1_; have BK2221 := n2_; have BK2226 := n3_; have HB := n4_; clear n0_ n1_ n2_ n3_ n4_; (try clear hb); (try clear hb2); (try clear hk); (try clear hi); have hcz86_0 : w85.cell? ⟨gb2226, 0, none⟩ = some (.int .i64 (wrap64 (Int.tdiv (wrap64 ((wrap64 (x9_1 * t2219)) - (wrap64 (x10_2 * t2215)))) t2222))) := (blk_cell BK2226.out 0).trans rfl; have hcz86_1 : w85.cell? ⟨gb2226, 1, none⟩ = some (.int .i64 (wrap64 (Int.tdiv (wrap64 ((wrap64 (x10_2 * t2214)) - (wrap64 (x9_1 * t2218)))) t2222))) := (blk_cell BK2226.out 1).trans rfl; have hfz86_0 := blk_frozen BK2226.out 0; have hfz86_1 := blk_frozen BK2226.out 1) | (go_at_call 261; (with_reducible refine (impl_width.calls kj26 _ _ l0 (wrap64 (Int.tdiv (wrap64 ((wrap64 (x9_1 * t2219)) - (wrap64 (x10_2 * t2215)))) t2222)) (wrap64 (Int.tdiv (wrap64 ((wrap64 (x10_2 * t2214)) - (wrap64 (x9_1 * t2218)))) t2222)) t2232 _ ?side1 ?side2 A63.out).mono ?_); (case side1 => repeat (first | exact (Kd.C_below HR0.out HB.out) | (with_reducible refine Kd.C_alloc ?_ _) | (with_reducible refine Kd.C_drewN ?_ _) | (with_reducible refine Kd.C_drew ?_))); (case side2 => exact HC0.out); rintro e w87 ⟨rfl, hb⟩; have n0_ := Aside0.mk (Kd.R_below (by (with_reducible repeat (first | apply Kd.R_alloc | apply Kd.R_drewN | apply Kd.R_drew)); exact HO_5.out) hb); have n1_ := Aside0.mk (blk_below (g := gb2220) (o := .cells #[.int .i64 t2214, .int .i64 t2215] 26 (0, 0)) zk hb); have n2_ := Aside0.mk (blk_below (g := gb2221) (o := .cells #[.int .i64 t2218, .int .i64 t2219] 26 (0, 0)) zk hb); have n3_ := Aside0.mk (blk_below (g := gb2226) (o := .cells #[.int .i64 (wrap64 (Int.tdiv (wrap64 ((wrap64 (x9_1 * t2219)) - (wrap64 (x10_2 * t2215)))) t2222)), .int .i64 (wrap64 (Int.tdiv (wrap64 ((wrap64 (x10_2 * t2214)) - (wrap64 (x9_1 * t2218)))) t2222))] 26 (0, 0)) zk hb); have n4_ := Aside0.mk (below_step zb hb); clear HO_5; clear BK2220; clear BK2221; clear BK2226; clear HB; have HO_5 := n0_; have BK2220 := n1_; have BK2221 := n2_; have BK2226 := n3_; have HB := n4_; clear n0_ n1_ n2_ n3_ n4_; (try clear hb); (try clear hb2); (try clear hk); (try clear hi)))
                   go_roundg kj26
                   case measure => have := HK1.out; have := HK2.out; have := HJ26.out; omega
                   case rel => exact ⟨(x5_2), (wrap64 (x10_2 + 1)), (by first | rfl | (simp; done) | (simp [*]; done)), H', ⟨by have := HK1.out; have := HK2.out; have := HJ26.out; omega⟩, ⟨by (with_reducible repeat (first | apply Kd.R_alloc | apply Kd.R_drewN | apply Kd.R_drew)); exact Kd.R_mono HO_5.out (fun _ hk => ⟨hk.1.1, hk.1.2⟩)⟩, ⟨zk⟩, ⟨zk⟩, ⟨zb⟩⟩
                 ·rw [if_neg c62] at H
                  have c62b0 : ((wrap64 (Int.tdiv (wrap64 ((wrap64 (x10_2 * t2214)) - (wrap64 (x9_1 * t2218)))) t2222)) == 1) = false := beq_eq_false_iff_ne.mpr c62
                  have c62b1 : ((wrap64 (Int.tdiv (wrap64 ((wrap64 (x10_2 * t2214)) - (wrap64 (x9_1 * t2218)))) t2222)) != 1) = true := bne_iff_ne.mpr c62
                  have H' := Aside0.mk H
                  clear H
                  try go_wp2
                  have n0_ := Aside0.mk (Kd.R_drew HO_5.out)
                  have n1_ := Aside0.mk (blk_drew BK2220.out)
                  have n2_ := Aside0.mk (blk_drew BK2221.out)
                  have n3_ := Aside0.mk (below_drew1 HB.out)
                  clear HO_5
                  clear BK2220
                  clear BK2221
                  clear HB
                  have HO_5 := n0_
                  have BK2220 := n1_
                  have BK2221 := n2_
                  have HB := n3_
                  clear n0_ n1_ n2_ n3_
                  refine start_ (n := 9) (S := fun w' => True) (ds := []) (zl 9 0) (by kernel_rfl) rfl rfl trivial (fun hHeld => ?_); refine with_tabW impl_directions.tab12 impl_directions.bits12 (fun HT_ HW_ => ?_)
                  generalize wc.drew = w88 at HO_5 BK2220 BK2221 HB hHeld ⊢
                  refine zp 0 74 9 1 HT_ ?_
                  refine zp 1 75 9 3 HT_ ?_
                  refine zp 2 76 9 7 HT_ ?_
                  refine zp 3 77 9 15 HT_ ?_
                  refine zp 4 78 9 31 HT_ ?_
                  refine zp 5 79 9 63 HT_ ?_
                  refine zp 6 80 9 127 HT_ ?_
                  refine one_ (i := 7) (N := some 13) (zl 9 255) rfl rfl (one_of HT_.out (by kernel_rfl)) (by decide) (fun K hK => ?_)
                  refine box_step ?hg (N := 13) ?hd (cs := #[.int .i64 0, .int .i64 0]) (t := 26) ?hr ?_; (case hd => rfl); (case hg => rfl); (case hr => first | (go_simp; done) | (go_simp; rfl))
                  intro gb2226 hg w89 hbox hb
                  have n0_ := Aside0.mk (Kd.R_below (Kd.R_elderB (by (with_reducible repeat (first | apply Kd.R_alloc | apply Kd.R_drewN | apply Kd.R_drew)); exact HO_5.out) gb2226 (Nat.le_of_eq hg.symm)) hb)
                  have n1_ := Aside0.mk (blk_below (g := gb2220) (o := .cells #[.int .i64 t2214, .int .i64 t2215] 26 (0, 0)) zk hb)
                  have n2_ := Aside0.mk (blk_below (g := gb2221) (o := .cells #[.int .i64 t2218, .int .i64 t2219] 26 (0, 0)) zk hb)
                  have n3_ := Aside0.mk (below_step zb hb)
                  have n4_ := Aside0.mk (hbox)
                  have n5_ := Aside0.mk ((by rw [hg]; exact (below_size zb) : w.heap.size ≤ gb2226))
                  have n6_ := Aside0.mk ((by rw [hg]; exact (below_size zb) : w.heap.size ≤ gb2226))
                  have n7_ := Aside0.mk ((by rw [hg]; exact Nat.ne_of_lt (blk_lt (g := gb2220) (o := .cells #[.int .i64 t2214, .int .i64 t2215] 26 (0, 0)) zk) : gb2220 ≠ gb2226))
                  have n8_ := Aside0.mk ((by rw [hg]; exact Nat.ne_of_gt (blk_lt (g := gb2220) (o := .cells #[.int .i64 t2214, .int .i64 t2215] 26 (0, 0)) zk) : gb2226 ≠ gb2220))
                  have n9_ := Aside0.mk ((by rw [hg]; exact Nat.ne_of_lt (blk_lt (g := gb2221) (o := .cells #[.int .i64 t2218, .int .i64 t2219] 26 (0, 0)) zk) : gb2221 ≠ gb2226))
                  have n10_ := Aside0.mk ((by rw [hg]; exact Nat.ne_of_gt (blk_lt (g := gb2221) (o := .cells #[.int .i64 t2218, .int .i64 t2219] 26 (0, 0)) zk) : gb2226 ≠ gb2221))
                  clear HO_5
                  clear BK2220
                  clear BK2221
                  clear HB
                  have HO_5 := n0_
                  have BK2220 := n1_
                  have BK2221 := n2_
                  have HB := n3_
                  have BK2226 := n4_
                  have GW2226 := n5_
                  have GE2226 := n6_
                  have NB2220_2226 := n7_
                  have NB2226_2220 := n8_
                  have NB2221_2226 := n9_
                  have NB2226_2221 := n10_
                  clear n0_ n1_ n2_ n3_ n4_ n5_ n6_ n7_ n8_ n9_ n10_
                  clear hb hbox hg
                  refine hK.out _ _ trivial (fun hHeld => ?_)
                  clear hK K
                  refine norm_ (a' := ?_) ?_ ?_
                  rotate_left
                  ·show Act.put _ (some 13) _ = _
                   exact zs
                  refine one_ (i := 8) (N := none) (zl 9 511) rfl rfl (one_of HT_.out (by kernel_rfl)) (by decide) (fun K hK => ?_)
                  have hs90 : w89.cell? ⟨gb2226, 0, none⟩ = some (.int .i64 0) := (blk_cell BK2226.out 0).trans rfl
                  have hfs90 := blk_frozen BK2226.out 0
                  have hns90_0 := NB2220_2226.out
                  have hns90_1 := NB2221_2226.out
                  have hms90_0 := NB2226_2220.out
                  have hms90_1 := NB2226_2221.out
                  have hs91 : w89.cell? ⟨gb2226, 1, none⟩ = some (.int .i64 0) := (blk_cell BK2226.out 1).trans rfl
                  have hfs91 := blk_frozen BK2226.out 1
                  have hns91_0 := NB2220_2226.out
                  have hns91_1 := NB2221_2226.out
                  have hms91_0 := NB2226_2220.out
                  have hms91_1 := NB2226_2221.out
                  refine skip_ (w1 := ?_) (by rfl) rfl ?_ ?_
                  rotate_left
                  ·go_simp
                   rfl
                  refine hK.out _ _ trivial (fun hHeld => ?_)
                  clear hK K
                  refine done_ (done_of HT_.out (by kernel_rfl)) ?_
                  have hnb92 := NB2226_2220.out
                  have hnc92 := NB2220_2226.out
                  have hnb93 := NB2226_2221.out
                  have hnc93 := NB2221_2226.out
                  have hcz94_0 : w89.cell? ⟨gb2226, 0, none⟩ = some (.int .i64 0) := (blk_cell BK2226.out 0).trans rfl
                  have hcz94_1 : w89.cell? ⟨gb2226, 1, none⟩ = some (.int .i64 0) := (blk_cell BK2226.out 1).trans rfl
                  have hfz94_0 := blk_frozen BK2226.out 0
                  have hfz94_1 := blk_frozen BK2226.out 1
                  try go_wp2_with (first | ((with_reducible refine gate_callee (f := 197) rfl ?_); refine goesL_ (some 85) rfl rfl Try.func197 (by kernel_rfl) rfl #[.int .i64 (wrap64 (Int.tdiv (wrap64 ((wrap64 (x9_1 * t2219)) - (wrap64 (x10_2 * t2215)))) t2222)), .int .i64 (wrap64 (Int.tdiv (wrap64 ((wrap64 (x10_2 * t2214)) - (wrap64 (x9_1 * t2218)))) t2222))] rfl zn ?_; (with_reducible refine (impl_divisor.calls kj26 (wrap64 (Int.tdiv (wrap64 ((wrap64 (x9_1 * t2219)) - (wrap64 (x10_2 * t2215)))) t2222)) (wrap64 (Int.tdiv (wrap64 ((wrap64 (x10_2 * t2214)) - (wrap64 (x9_1 * t2218)))) t2222)) t2227 _ A33.out).mono ?_); rintro e w95 ⟨rfl, hb⟩; refine ⟨_, rfl, ?_⟩; have n0_ := Aside0.mk (Kd.R_below (by (with_reducible repeat (first | apply Kd.R_alloc | apply Kd.R_drewN | apply Kd.R_drew)); exact (Kd.R_mono (Kd.R_far (p := ⟨gb2226, 1, none⟩) (Kd.R_far (p := ⟨gb2226, 0, none⟩) (Kd.R_mono HO_5.out (fun k_ hk => (⟨hk, hk.2⟩ : _ ∧ k_ ≠ gb2226))) (fun _ hk => hk.2) (.int .i64 (wrap64 (Int.tdiv (wrap64 ((wrap64 (x9_1 * t2219)) - (wrap64 (x10_2 * t2215)))) t2222)))) (fun _ hk => hk.2) (.int .i64 (wrap64 (Int.tdiv (wrap64 ((wrap64 (x10_2 * t2214)) - (wrap64 (x9_1 * t2218)))) t2222)))) (fun _ h_ => h_.1))) hb); have n1_ := Aside0.mk (blk_below (g := gb2220) (o := .cells #[.int .i64 t2214, .int .i64 t2215] 26 (0, 0)) (by (with_reducible repeat (first | refine blk_drewN ?_ _ | refine blk_drew ?_ | refine blk_alloc ?_ _)); refine blk_far ?_ NB2220_2226.out _; (with_reducible repeat (first | refine blk_drewN ?_ _ | refine blk_drew ?_ | refine blk_alloc ?_ _)); refine blk_far ?_ NB2220_2226.out _; (with_reducible repeat (first | refine blk_drewN ?_ _ | refine blk_drew ?_ | refine blk_alloc ?_ _)); exact BK2220.out) hb); have n2_ := Aside0.mk (blk_below (g := gb2221) (o := .cells #[.int .i64 t2218, .int .i64 t2219] 26 (0, 0)) (by (with_reducible repeat (first | refine blk_drewN ?_ _ | refine blk_drew ?_ | refine blk_alloc ?_ _)); refine blk_far ?_ NB2221_2226.out _; (with_reducible repeat (first | refine blk_drewN ?_ _ | refine blk_drew ?_ | refine blk_alloc ?_ _)); refine blk_far ?_ NB2221_2226.out _; (with_reducible repeat (first | refine blk_drewN ?_ _ | refine blk_drew ?_ | refine blk_alloc ?_ _)); exact BK2221.out) hb); have n3_ := Aside0.mk (blk_below (g := gb2226) (o := .cells #[.int .i64 (wrap64 (Int.tdiv (wrap64 ((wrap64 (x9_1 * t2219)) - (wrap64 (x10_2 * t2215)))) t2222)), .int .i64 (wrap64 (Int.tdiv (wrap64 ((wrap64 (x10_2 * t2214)) - (wrap64 (x9_1 * t2218)))) t2222))] 26 (0, 0)) (by (with_reducible repeat (first | refine blk_drewN ?_ _ | refine blk_drew ?_ | refine blk_alloc ?_ _)); refine blk_put (cs := #[.int .i64 (wrap64 (Int.tdiv (wrap64 ((wrap64 (x9_1 * t2219)) - (wrap64 (x10_2 * t2215)))) t2222)), .int .i64 0]) ?_ 1 _ rfl; (with_reducible repeat (first | refine blk_drewN ?_ _ | refine blk_drew ?_ | refine blk_alloc ?_ _)); refine blk_put (cs := #[.int .i64 0, .int .i64 0]) ?_ 0 _ rfl; (with_reducible repeat (first | refine blk_drewN ?_ _ | refine blk_drew ?_ | refine blk_alloc ?_ _)); exact BK2226.out) hb); have n4_ := Aside0.mk (below_step zb hb); clear HO_5; clear BK2220; clear BK2221; clear BK2226; clear HB; have HO_5 := n0_; have BK2220 := n1_; have BK2221 := n2_; have BK2226 := n3_; have HB := n4_; clear n0_ n1_ n2_ n3_ n4_; (try clear hb); (try clear hb2); (try clear hk); (try clear hi); have hcz96_0 : w95.cell? ⟨gb2226, 0, none⟩ = some (.int .i64 (wrap64 (Int.tdiv (wrap64 ((wrap64 (x9_1 * t2219)) - (wrap64 (x10_2 * t2215)))) t2222))) := (blk_cell BK2226.out 0).trans rfl; have hcz96_1 : w95.cell? ⟨gb2226, 1, none⟩ = some (.int .i64 (wrap64 (Int.tdiv (wrap64 ((wrap64 (x10_2 * t2214)) - (wrap64 (x9_1 * t2218)))) t2222))) := (blk_cell BK2226.out 1).trans rfl; have hfz96_0 := blk_frozen BK2226.out 0; have hfz96_1 := blk_frozen BK2226.out 1))
                  go_roundg kj26
                  case measure => have := HK1.out; have := HK2.out; have := HJ26.out; omega
                  case rel => exact ⟨(x5_2), (wrap64 (x10_2 + 1)), (by first | rfl | (simp; done) | (simp [*]; done)), H', ⟨by have := HK1.out; have := HK2.out; have := HJ26.out; omega⟩, ⟨by (with_reducible repeat (first | apply Kd.R_alloc | apply Kd.R_drewN | apply Kd.R_drew)); exact Kd.R_mono HO_5.out (fun _ hk => ⟨hk.1.1, hk.1.2⟩)⟩, ⟨zk⟩, ⟨zk⟩, ⟨zb⟩⟩
                ·rw [if_neg c61] at H
                 have c61b0 : ((wrap64 (Int.tdiv (wrap64 ((wrap64 (x9_1 * t2219)) - (wrap64 (x10_2 * t2215)))) t2222)) == 0) = false := beq_eq_false_iff_ne.mpr c61
                 have c61b1 : ((wrap64 (Int.tdiv (wrap64 ((wrap64 (x9_1 * t2219)) - (wrap64 (x10_2 * t2215)))) t2222)) != 0) = true := bne_iff_ne.mpr c61
                 have H' := Aside0.mk H
                 clear H
                 try go_wp2
                 have n0_ := Aside0.mk (Kd.R_drew HO_5.out)
                 have n1_ := Aside0.mk (blk_drew BK2220.out)
                 have n2_ := Aside0.mk (blk_drew BK2221.out)
                 have n3_ := Aside0.mk (below_drew1 HB.out)
                 clear HO_5
                 clear BK2220
                 clear BK2221
                 clear HB
                 have HO_5 := n0_
                 have BK2220 := n1_
                 have BK2221 := n2_
                 have HB := n3_
                 clear n0_ n1_ n2_ n3_
                 refine start_ (n := 9) (S := fun w' => True) (ds := []) (zl 9 0) (by kernel_rfl) rfl rfl trivial (fun hHeld => ?_); refine with_tabW impl_directions.tab12 impl_directions.bits12 (fun HT_ HW_ => ?_)
                 generalize wc.drew = w97 at HO_5 BK2220 BK2221 HB hHeld ⊢
                 refine zp 0 74 9 1 HT_ ?_
                 refine zp 1 75 9 3 HT_ ?_
                 refine zp 2 76 9 7 HT_ ?_
                 refine zp 3 77 9 15 HT_ ?_
                 refine zp 4 78 9 31 HT_ ?_
                 refine zp 5 79 9 63 HT_ ?_
                 refine zp 6 80 9 127 HT_ ?_
                 refine one_ (i := 7) (N := some 13) (zl 9 255) rfl rfl (one_of HT_.out (by kernel_rfl)) (by decide) (fun K hK => ?_)
                 refine box_step ?hg (N := 13) ?hd (cs := #[.int .i64 0, .int .i64 0]) (t := 26) ?hr ?_; (case hd => rfl); (case hg => rfl); (case hr => first | (go_simp; done) | (go_simp; rfl))
                 intro gb2226 hg w98 hbox hb
                 have n0_ := Aside0.mk (Kd.R_below (Kd.R_elderB (by (with_reducible repeat (first | apply Kd.R_alloc | apply Kd.R_drewN | apply Kd.R_drew)); exact HO_5.out) gb2226 (Nat.le_of_eq hg.symm)) hb)
                 have n1_ := Aside0.mk (blk_below (g := gb2220) (o := .cells #[.int .i64 t2214, .int .i64 t2215] 26 (0, 0)) zk hb)
                 have n2_ := Aside0.mk (blk_below (g := gb2221) (o := .cells #[.int .i64 t2218, .int .i64 t2219] 26 (0, 0)) zk hb)
                 have n3_ := Aside0.mk (below_step zb hb)
                 have n4_ := Aside0.mk (hbox)
                 have n5_ := Aside0.mk ((by rw [hg]; exact (below_size zb) : w.heap.size ≤ gb2226))
                 have n6_ := Aside0.mk ((by rw [hg]; exact (below_size zb) : w.heap.size ≤ gb2226))
                 have n7_ := Aside0.mk ((by rw [hg]; exact Nat.ne_of_lt (blk_lt (g := gb2220) (o := .cells #[.int .i64 t2214, .int .i64 t2215] 26 (0, 0)) zk) : gb2220 ≠ gb2226))
                 have n8_ := Aside0.mk ((by rw [hg]; exact Nat.ne_of_gt (blk_lt (g := gb2220) (o := .cells #[.int .i64 t2214, .int .i64 t2215] 26 (0, 0)) zk) : gb2226 ≠ gb2220))
                 have n9_ := Aside0.mk ((by rw [hg]; exact Nat.ne_of_lt (blk_lt (g := gb2221) (o := .cells #[.int .i64 t2218, .int .i64 t2219] 26 (0, 0)) zk) : gb2221 ≠ gb2226))
                 have n10_ := Aside0.mk ((by rw [hg]; exact Nat.ne_of_gt (blk_lt (g := gb2221) (o := .cells #[.int .i64 t2218, .int .i64 t2219] 26 (0, 0)) zk) : gb2226 ≠ gb2221))
                 clear HO_5
                 clear BK2220
                 clear BK2221
                 clear HB
                 have HO_5 := n0_
                 have BK2220 := n1_
                 have BK2221 := n2_
                 have HB := n3_
                 have BK2226 := n4_
                 have GW2226 := n5_
                 have GE2226 := n6_
                 have NB2220_2226 := n7_
                 have NB2226_2220 := n8_
                 have NB2221_2226 := n9_
                 have NB2226_2221 := n10_
                 clear n0_ n1_ n2_ n3_ n4_ n5_ n6_ n7_ n8_ n9_ n10_
                 clear hb hbox hg
                 refine hK.out _ _ trivial (fun hHeld => ?_)
                 clear hK K
                 refine norm_ (a' := ?_) ?_ ?_
                 rotate_left
                 ·show Act.put _ (some 13) _ = _
                  exact zs
                 refine one_ (i := 8) (N := none) (zl 9 511) rfl rfl (one_of HT_.out (by kernel_rfl)) (by decide) (fun K hK => ?_)
                 have hs99 : w98.cell? ⟨gb2226, 0, none⟩ = some (.int .i64 0) := (blk_cell BK2226.out 0).trans rfl
                 have hfs99 := blk_frozen BK2226.out 0
                 have hns99_0 := NB2220_2226.out
                 have hns99_1 := NB2221_2226.out
                 have hms99_0 := NB2226_2220.out
                 have hms99_1 := NB2226_2221.out
                 have hs100 : w98.cell? ⟨gb2226, 1, none⟩ = some (.int .i64 0) := (blk_cell BK2226.out 1).trans rfl
                 have hfs100 := blk_frozen BK2226.out 1
                 have hns100_0 := NB2220_2226.out
                 have hns100_1 := NB2221_2226.out
                 have hms100_0 := NB2226_2220.out
                 have hms100_1 := NB2226_2221.out
                 refine skip_ (w1 := ?_) (by rfl) rfl ?_ ?_
                 rotate_left
                 ·go_simp
                  rfl
                 refine hK.out _ _ trivial (fun hHeld => ?_)
                 clear hK K
                 refine done_ (done_of HT_.out (by kernel_rfl)) ?_
                 have hnb101 := NB2226_2220.out
                 have hnc101 := NB2220_2226.out
                 have hnb102 := NB2226_2221.out
                 have hnc102 := NB2221_2226.out
                 have hcz103_0 : w98.cell? ⟨gb2226, 0, none⟩ = some (.int .i64 0) := (blk_cell BK2226.out 0).trans rfl
                 have hcz103_1 : w98.cell? ⟨gb2226, 1, none⟩ = some (.int .i64 0) := (blk_cell BK2226.out 1).trans rfl
                 have hfz103_0 := blk_frozen BK2226.out 0
                 have hfz103_1 := blk_frozen BK2226.out 1
                 try go_wp2_with (first | ((with_reducible refine gate_callee (f := 197) rfl ?_); refine goesL_ (some 85) rfl rfl Try.func197 (by kernel_rfl) rfl #[.int .i64 (wrap64 (Int.tdiv (wrap64 ((wrap64 (x9_1 * t2219)) - (wrap64 (x10_2 * t2215)))) t2222)), .int .i64 (wrap64 (Int.tdiv (wrap64 ((wrap64 (x10_2 * t2214)) - (wrap64 (x9_1 * t2218)))) t2222))] rfl zn ?_; (with_reducible refine (impl_divisor.calls kj26 (wrap64 (Int.tdiv (wrap64 ((wrap64 (x9_1 * t2219)) - (wrap64 (x10_2 * t2215)))) t2222)) (wrap64 (Int.tdiv (wrap64 ((wrap64 (x10_2 * t2214)) - (wrap64 (x9_1 * t2218)))) t2222)) t2227 _ A33.out).mono ?_); rintro e w104 ⟨rfl, hb⟩; refine ⟨_, rfl, ?_⟩; have n0_ := Aside0.mk (Kd.R_below (by (with_reducible repeat (first | apply Kd.R_alloc | apply Kd.R_drewN | apply Kd.R_drew)); exact (Kd.R_mono (Kd.R_far (p := ⟨gb2226, 1, none⟩) (Kd.R_far (p := ⟨gb2226, 0, none⟩) (Kd.R_mono HO_5.out (fun k_ hk => (⟨hk, hk.2⟩ : _ ∧ k_ ≠ gb2226))) (fun _ hk => hk.2) (.int .i64 (wrap64 (Int.tdiv (wrap64 ((wrap64 (x9_1 * t2219)) - (wrap64 (x10_2 * t2215)))) t2222)))) (fun _ hk => hk.2) (.int .i64 (wrap64 (Int.tdiv (wrap64 ((wrap64 (x10_2 * t2214)) - (wrap64 (x9_1 * t2218)))) t2222)))) (fun _ h_ => h_.1))) hb); have n1_ := Aside0.mk (blk_below (g := gb2220) (o := .cells #[.int .i64 t2214, .int .i64 t2215] 26 (0, 0)) (by (with_reducible repeat (first | refine blk_drewN ?_ _ | refine blk_drew ?_ | refine blk_alloc ?_ _)); refine blk_far ?_ NB2220_2226.out _; (with_reducible repeat (first | refine blk_drewN ?_ _ | refine blk_drew ?_ | refine blk_alloc ?_ _)); refine blk_far ?_ NB2220_2226.out _; (with_reducible repeat (first | refine blk_drewN ?_ _ | refine blk_drew ?_ | refine blk_alloc ?_ _)); exact BK2220.out) hb); have n2_ := Aside0.mk (blk_below (g := gb2221) (o := .cells #[.int .i64 t2218, .int .i64 t2219] 26 (0, 0)) (by (with_reducible repeat (first | refine blk_drewN ?_ _ | refine blk_drew ?_ | refine blk_alloc ?_ _)); refine blk_far ?_ NB2221_2226.out _; (with_reducible repeat (first | refine blk_drewN ?_ _ | refine blk_drew ?_ | refine blk_alloc ?_ _)); refine blk_far ?_ NB2221_2226.out _; (with_reducible repeat (first | refine blk_drewN ?_ _ | refine blk_drew ?_ | refine blk_alloc ?_ _)); exact BK2221.out) hb); have n3_ := Aside0.mk (blk_below (g := gb2226) (o := .cells #[.int .i64 (wrap64 (Int.tdiv (wrap64 ((wrap64 (x9_1 * t2219)) - (wrap64 (x10_2 * t2215)))) t2222)), .int .i64 (wrap64 (Int.tdiv (wrap64 ((wrap64 (x10_2 * t2214)) - (wrap64 (x9_1 * t2218)))) t2222))] 26 (0, 0)) (by (with_reducible repeat (first | refine blk_drewN ?_ _ | refine blk_drew ?_ | refine blk_alloc ?_ _)); refine blk_put (cs := #[.int .i64 (wrap64 (Int.tdiv (wrap64 ((wrap64 (x9_1 * t2219)) - (wrap64 (x10_2 * t2215)))) t2222)), .int .i64 0]) ?_ 1 _ rfl; (with_reducible repeat (first | refine blk_drewN ?_ _ | refine blk_drew ?_ | refine blk_alloc ?_ _)); refine blk_put (cs := #[.int .i64 0, .int .i64 0]) ?_ 0 _ rfl; (with_reducible repeat (first | refine blk_drewN ?_ _ | refine blk_drew ?_ | refine blk_alloc ?_ _)); exact BK2226.out) hb); have n4_ := Aside0.mk (below_step zb hb); clear HO_5; clear BK2220; clear BK2221; clear BK2226; clear HB; have HO_5 := n0_; have BK2220 := n1_; have BK2221 := n2_; have BK2226 := n3_; have HB := n4_; clear n0_ n1_ n2_ n3_ n4_; (try clear hb); (try clear hb2); (try clear hk); (try clear hi); have hcz105_0 : w104.cell? ⟨gb2226, 0, none⟩ = some (.int .i64 (wrap64 (Int.tdiv (wrap64 ((wrap64 (x9_1 * t2219)) - (wrap64 (x10_2 * t2215)))) t2222))) := (blk_cell BK2226.out 0).trans rfl; have hcz105_1 : w104.cell? ⟨gb2226, 1, none⟩ = some (.int .i64 (wrap64 (Int.tdiv (wrap64 ((wrap64 (x10_2 * t2214)) - (wrap64 (x9_1 * t2218)))) t2222))) := (blk_cell BK2226.out 1).trans rfl; have hfz105_0 := blk_frozen BK2226.out 0; have hfz105_1 := blk_frozen BK2226.out 1))
                 go_roundg kj26
                 case measure => have := HK1.out; have := HK2.out; have := HJ26.out; omega
                 case rel => exact ⟨(x5_2), (wrap64 (x10_2 + 1)), (by first | rfl | (simp; done) | (simp [*]; done)), H', ⟨by have := HK1.out; have := HK2.out; have := HJ26.out; omega⟩, ⟨by (with_reducible repeat (first | apply Kd.R_alloc | apply Kd.R_drewN | apply Kd.R_drew)); exact Kd.R_mono HO_5.out (fun _ hk => ⟨hk.1.1, hk.1.2⟩)⟩, ⟨zk⟩, ⟨zk⟩, ⟨zb⟩⟩
              ·rw [if_neg c34] at H
               have c34b0 : (t2227 == 1) = false := beq_eq_false_iff_ne.mpr c34
               have c34b1 : (t2227 != 1) = true := bne_iff_ne.mpr c34
               have H' := Aside0.mk H
               clear H
               try go_wp2
               have n0_ := Aside0.mk (Kd.R_drew HO_5.out)
               have n1_ := Aside0.mk (blk_drew BK2220.out)
               have n2_ := Aside0.mk (blk_drew BK2221.out)
               have n3_ := Aside0.mk (below_drew1 HB.out)
               clear HO_5
               clear BK2220
               clear BK2221
               clear HB
               have HO_5 := n0_
               have BK2220 := n1_
               have BK2221 := n2_
               have HB := n3_
               clear n0_ n1_ n2_ n3_
               refine start_ (n := 9) (S := fun w' => True) (ds := []) (zl 9 0) (by kernel_rfl) rfl rfl trivial (fun hHeld => ?_); refine with_tabW impl_directions.tab12 impl_directions.bits12 (fun HT_ HW_ => ?_)
               generalize wc.drew = w106 at HO_5 BK2220 BK2221 HB hHeld ⊢
               refine zp 0 74 9 1 HT_ ?_
               refine zp 1 75 9 3 HT_ ?_
               refine zp 2 76 9 7 HT_ ?_
               refine zp 3 77 9 15 HT_ ?_
               refine zp 4 78 9 31 HT_ ?_
               refine zp 5 79 9 63 HT_ ?_
               refine zp 6 80 9 127 HT_ ?_
               refine one_ (i := 7) (N := some 13) (zl 9 255) rfl rfl (one_of HT_.out (by kernel_rfl)) (by decide) (fun K hK => ?_)
               refine box_step ?hg (N := 13) ?hd (cs := #[.int .i64 0, .int .i64 0]) (t := 26) ?hr ?_; (case hd => rfl); (case hg => rfl); (case hr => first | (go_simp; done) | (go_simp; rfl))
               intro gb2226 hg w107 hbox hb
               have n0_ := Aside0.mk (Kd.R_below (Kd.R_elderB (by (with_reducible repeat (first | apply Kd.R_alloc | apply Kd.R_drewN | apply Kd.R_drew)); exact HO_5.out) gb2226 (Nat.le_of_eq hg.symm)) hb)
               have n1_ := Aside0.mk (blk_below (g := gb2220) (o := .cells #[.int .i64 t2214, .int .i64 t2215] 26 (0, 0)) zk hb)
               have n2_ := Aside0.mk (blk_below (g := gb2221) (o := .cells #[.int .i64 t2218, .int .i64 t2219] 26 (0, 0)) zk hb)
               have n3_ := Aside0.mk (below_step zb hb)
               have n4_ := Aside0.mk (hbox)
               have n5_ := Aside0.mk ((by rw [hg]; exact (below_size zb) : w.heap.size ≤ gb2226))
               have n6_ := Aside0.mk ((by rw [hg]; exact (below_size zb) : w.heap.size ≤ gb2226))
               have n7_ := Aside0.mk ((by rw [hg]; exact Nat.ne_of_lt (blk_lt (g := gb2220) (o := .cells #[.int .i64 t2214, .int .i64 t2215] 26 (0, 0)) zk) : gb2220 ≠ gb2226))
               have n8_ := Aside0.mk ((by rw [hg]; exact Nat.ne_of_gt (blk_lt (g := gb2220) (o := .cells #[.int .i64 t2214, .int .i64 t2215] 26 (0, 0)) zk) : gb2226 ≠ gb2220))
               have n9_ := Aside0.mk ((by rw [hg]; exact Nat.ne_of_lt (blk_lt (g := gb2221) (o := .cells #[.int .i64 t2218, .int .i64 t2219] 26 (0, 0)) zk) : gb2221 ≠ gb2226))
               have n10_ := Aside0.mk ((by rw [hg]; exact Nat.ne_of_gt (blk_lt (g := gb2221) (o := .cells #[.int .i64 t2218, .int .i64 t2219] 26 (0, 0)) zk) : gb2226 ≠ gb2221))
               clear HO_5
               clear BK2220
               clear BK2221
               clear HB
               have HO_5 := n0_
               have BK2220 := n1_
               have BK2221 := n2_
               have HB := n3_
               have BK2226 := n4_
               have GW2226 := n5_
               have GE2226 := n6_
               have NB2220_2226 := n7_
               have NB2226_2220 := n8_
               have NB2221_2226 := n9_
               have NB2226_2221 := n10_
               clear n0_ n1_ n2_ n3_ n4_ n5_ n6_ n7_ n8_ n9_ n10_
               clear hb hbox hg
               refine hK.out _ _ trivial (fun hHeld => ?_)
               clear hK K
               refine norm_ (a' := ?_) ?_ ?_
               rotate_left
               ·show Act.put _ (some 13) _ = _
                exact zs
               refine one_ (i := 8) (N := none) (zl 9 511) rfl rfl (one_of HT_.out (by kernel_rfl)) (by decide) (fun K hK => ?_)
               have hs108 : w107.cell? ⟨gb2226, 0, none⟩ = some (.int .i64 0) := (blk_cell BK2226.out 0).trans rfl
               have hfs108 := blk_frozen BK2226.out 0
               have hns108_0 := NB2220_2226.out
               have hns108_1 := NB2221_2226.out
               have hms108_0 := NB2226_2220.out
               have hms108_1 := NB2226_2221.out
               have hs109 : w107.cell? ⟨gb2226, 1, none⟩ = some (.int .i64 0) := (blk_cell BK2226.out 1).trans rfl
               have hfs109 := blk_frozen BK2226.out 1
               have hns109_0 := NB2220_2226.out
               have hns109_1 := NB2221_2226.out
               have hms109_0 := NB2226_2220.out
               have hms109_1 := NB2226_2221.out
               refine skip_ (w1 := ?_) (by rfl) rfl ?_ ?_
               rotate_left
               ·go_simp
                rfl
               refine hK.out _ _ trivial (fun hHeld => ?_)
               clear hK K
               refine done_ (done_of HT_.out (by kernel_rfl)) ?_
               have hnb110 := NB2226_2220.out
               have hnc110 := NB2220_2226.out
               have hnb111 := NB2226_2221.out
               have hnc111 := NB2221_2226.out
               have hcz112_0 : w107.cell? ⟨gb2226, 0, none⟩ = some (.int .i64 0) := (blk_cell BK2226.out 0).trans rfl
               have hcz112_1 : w107.cell? ⟨gb2226, 1, none⟩ = some (.int .i64 0) := (blk_cell BK2226.out 1).trans rfl
               have hfz112_0 := blk_frozen BK2226.out 0
               have hfz112_1 := blk_frozen BK2226.out 1
               try go_wp2_with (first | ((with_reducible refine gate_callee (f := 197) rfl ?_); refine goesL_ (some 85) rfl rfl Try.func197 (by kernel_rfl) rfl #[.int .i64 (wrap64 (Int.tdiv (wrap64 ((wrap64 (x9_1 * t2219)) - (wrap64 (x10_2 * t2215)))) t2222)), .int .i64 (wrap64 (Int.tdiv (wrap64 ((wrap64 (x10_2 * t2214)) - (wrap64 (x9_1 * t2218)))) t2222))] rfl zn ?_; (with_reducible refine (impl_divisor.calls kj26 (wrap64 (Int.tdiv (wrap64 ((wrap64 (x9_1 * t2219)) - (wrap64 (x10_2 * t2215)))) t2222)) (wrap64 (Int.tdiv (wrap64 ((wrap64 (x10_2 * t2214)) - (wrap64 (x9_1 * t2218)))) t2222)) t2227 _ A33.out).mono ?_); rintro e w113 ⟨rfl, hb⟩; refine ⟨_, rfl, ?_⟩; have n0_ := Aside0.mk (Kd.R_below (by (with_reducible repeat (first | apply Kd.R_alloc | apply Kd.R_drewN | apply Kd.R_drew)); exact (Kd.R_mono (Kd.R_far (p := ⟨gb2226, 1, none⟩) (Kd.R_far (p := ⟨gb2226, 0, none⟩) (Kd.R_mono HO_5.out (fun k_ hk => (⟨hk, hk.2⟩ : _ ∧ k_ ≠ gb2226))) (fun _ hk => hk.2) (.int .i64 (wrap64 (Int.tdiv (wrap64 ((wrap64 (x9_1 * t2219)) - (wrap64 (x10_2 * t2215)))) t2222)))) (fun _ hk => hk.2) (.int .i64 (wrap64 (Int.tdiv (wrap64 ((wrap64 (x10_2 * t2214)) - (wrap64 (x9_1 * t2218)))) t2222)))) (fun _ h_ => h_.1))) hb); have n1_ := Aside0.mk (blk_below (g := gb2220) (o := .cells #[.int .i64 t2214, .int .i64 t2215] 26 (0, 0)) (by (with_reducible repeat (first | refine blk_drewN ?_ _ | refine blk_drew ?_ | refine blk_alloc ?_ _)); refine blk_far ?_ NB2220_2226.out _; (with_reducible repeat (first | refine blk_drewN ?_ _ | refine blk_drew ?_ | refine blk_alloc ?_ _)); refine blk_far ?_ NB2220_2226.out _; (with_reducible repeat (first | refine blk_drewN ?_ _ | refine blk_drew ?_ | refine blk_alloc ?_ _)); exact BK2220.out) hb); have n2_ := Aside0.mk (blk_below (g := gb2221) (o := .cells #[.int .i64 t2218, .int .i64 t2219] 26 (0, 0)) (by (with_reducible repeat (first | refine blk_drewN ?_ _ | refine blk_drew ?_ | refine blk_alloc ?_ _)); refine blk_far ?_ NB2221_2226.out _; (with_reducible repeat (first | refine blk_drewN ?_ _ | refine blk_drew ?_ | refine blk_alloc ?_ _)); refine blk_far ?_ NB2221_2226.out _; (with_reducible repeat (first | refine blk_drewN ?_ _ | refine blk_drew ?_ | refine blk_alloc ?_ _)); exact BK2221.out) hb); have n3_ := Aside0.mk (blk_below (g := gb2226) (o := .cells #[.int .i64 (wrap64 (Int.tdiv (wrap64 ((wrap64 (x9_1 * t2219)) - (wrap64 (x10_2 * t2215)))) t2222)), .int .i64 (wrap64 (Int.tdiv (wrap64 ((wrap64 (x10_2 * t2214)) - (wrap64 (x9_1 * t2218)))) t2222))] 26 (0, 0)) (by (with_reducible repeat (first | refine blk_drewN ?_ _ | refine blk_drew ?_ | refine blk_alloc ?_ _)); refine blk_put (cs := #[.int .i64 (wrap64 (Int.tdiv (wrap64 ((wrap64 (x9_1 * t2219)) - (wrap64 (x10_2 * t2215)))) t2222)), .int .i64 0]) ?_ 1 _ rfl; (with_reducible repeat (first | refine blk_drewN ?_ _ | refine blk_drew ?_ | refine blk_alloc ?_ _)); refine blk_put (cs := #[.int .i64 0, .int .i64 0]) ?_ 0 _ rfl; (with_reducible repeat (first | refine blk_drewN ?_ _ | refine blk_drew ?_ | refine blk_alloc ?_ _)); exact BK2226.out) hb); have n4_ := Aside0.mk (below_step zb hb); clear HO_5; clear BK2220; clear BK2221; clear BK2226; clear HB; have HO_5 := n0_; have BK2220 := n1_; have BK2221 := n2_; have BK2226 := n3_; have HB := n4_; clear n0_ n1_ n2_ n3_ n4_; (try clear hb); (try clear hb2); (try clear hk); (try clear hi)))
               go_roundg kj26
               case measure => have := HK1.out; have := HK2.out; have := HJ26.out; omega
               case rel => exact ⟨(x5_2), (wrap64 (x10_2 + 1)), (by first | rfl | (simp; done) | (simp [*]; done)), H', ⟨by have := HK1.out; have := HK2.out; have := HJ26.out; omega⟩, ⟨by (with_reducible repeat (first | apply Kd.R_alloc | apply Kd.R_drewN | apply Kd.R_drew)); exact Kd.R_mono HO_5.out (fun _ hk => ⟨hk.1.1, hk.1.2⟩)⟩, ⟨zk⟩, ⟨zk⟩, ⟨zb⟩⟩
         ·rw [if_neg c26] at H
          have c26b0 : decide (x10_2 ≤ a1) = false := decide_eq_false c26
          clear c26
          have H' := Aside0.mk H
          clear H
          go_wp2
          go_roundg k2
          case measure => have := HK1.out; have := HK2.out; omega
          case rel => exact ⟨(x5_2), (wrap64 (x9_1 + 1)), (by first | rfl | (simp; done) | (simp [*]; done)), H', ⟨by have := HK1.out; have := HK2.out; omega⟩, ⟨by (with_reducible repeat (first | apply Kd.R_alloc | apply Kd.R_drewN | apply Kd.R_drew)); exact HO_5.out⟩, ⟨zk⟩, ⟨zk⟩, ⟨zb⟩⟩
      ·rw [if_neg c25] at H
       have c25b0 : decide (x9_1 ≤ a1) = false := decide_eq_false c25
       clear c25
       replace H := Option.bind_eq_some_iff.mp H
       obtain ⟨t2223, A1140, H⟩ := H
       replace H : (some t2223) = some r := H
       have A114 := Aside0.mk A1140
       clear A1140
       obtain rfl := Option.some.inj H
       obtain ⟨Ao115, co115, eo115⟩ := Kd.R_slice HO_5.out
       subst eo115
       go_wp2_with (first | ((with_reducible refine gate_callee (f := 214) rfl ?_); refine goesL_ (some 114) rfl rfl Try.func214 (by kernel_rfl) rfl #[.slice Ao115 x5_1.length co115] rfl zn ?_; (with_reducible refine (impl_sorted.calls _ _ x5_1 t2223 _ ?side1 ?side2 A114.out).mono ?_); (case side1 => repeat (first | exact (Kd.R_reads' HO_5.out).2.2 | (with_reducible refine Kd.C_alloc ?_ _) | (with_reducible refine Kd.C_drewN ?_ _) | (with_reducible refine Kd.C_drew ?_))); (case side2 => exact (Kd.R_reads' HO_5.out).2.1); rintro e w116 ⟨v2224, rfl, ho0, hb⟩; refine ⟨_, rfl, ?_⟩; have n0_ := Aside0.mk (Kd.R_elder' (by (with_reducible repeat (first | apply Kd.R_alloc | apply Kd.R_drewN | apply Kd.R_drew)); exact HO_5.out) (Kd.R_base ho0) hb); have n1_ := Aside0.mk (Kd.R_lower (Kd.R_newB (Kd.R_newB (Kd.R_new' ho0 (Kd.R_lt (by (with_reducible repeat (first | apply Kd.R_alloc | apply Kd.R_drewN | apply Kd.R_drew)); exact HO_5.out))) (g := gb2220) (o := .cells #[.int .i64 t2214, .int .i64 t2215] 26 (0, 0)) zk) (g := gb2221) (o := .cells #[.int .i64 t2218, .int .i64 t2219] 26 (0, 0)) zk) (below_size zb)); have n2_ := Aside0.mk (blk_below (g := gb2220) (o := .cells #[.int .i64 t2214, .int .i64 t2215] 26 (0, 0)) zk hb); have n3_ := Aside0.mk (blk_below (g := gb2221) (o := .cells #[.int .i64 t2218, .int .i64 t2219] 26 (0, 0)) zk hb); have n4_ := Aside0.mk (below_step zb hb); clear HO_5; clear BK2220; clear BK2221; clear HB; have HO_5 := n0_; have HO2225 := n1_; have BK2220 := n2_; have BK2221 := n3_; have HB := n4_; clear n0_ n1_ n2_ n3_ n4_; (try clear hb); (try clear hb2); (try clear hk); (try clear hi); (try clear ho0)))
       go_ret
       exact ⟨_, by first | rfl | (simp [errW_none, errW_some] <;> rfl) | (simp [*, errW_none, errW_some] <;> rfl), by (with_reducible repeat (first | apply Kd.R_alloc | apply Kd.R_drewN | apply Kd.R_drew)); exact Kd.R_mono HO2225.out (fun _ hk => trivial), zb⟩
   ·rw [if_neg c6] at H
    exact absurd H (by simp)
  ·rw [if_neg c4] at H
   exact absurd H (by simp)
 ·rw [if_neg c3] at H
  exact absurd H (by simp)
end Go.Proofs.Ytphpdfcblchpnaa.Q
namespace Go.Proofs.Ytphpdfcblchpnaa.D
open Go.RowKit Go.Proofs.Ytphpdfcblchpnaa.Q Go.Proofs.YtphpdfcblchpnaaW.PrintWords Go.Proofs.YtphpdfcblchpnaaW.PrintLast Go.Proofs.YtphpdfcblchpnaaW.PrintMore
open Go.Proofs.Ytphpdfcblchpnaa.M
def valw (x y : Int) (p : S26) : Int := wrap64 (wrap64 (x * p.f0) + wrap64 (y * p.f1))
def loW (x y : Int) (m : Int) (l : List S26) : Int := l.foldl (fun m p => mn m (valw x y p)) m
def hiW (x y : Int) (m : Int) (l : List S26) : Int := l.foldl (fun m p => mx m (valw x y p)) m
def widw (l : List S26) (x y : Int) : Int := wrap64 (hiW x y (valw x y (l.getD 0 z26)) l - loW x y (valw x y (l.getD 0 z26)) l)
theorem rd_T26_nat (l : List S26) (i : Nat) : rd_T26 l (i : Int) = l.getD i z26 := by
  simp [rd_T26]
theorem drop_succ (l : List S26) (i : Nat) (h : i < l.length) : l.drop i = l.getD i z26 :: l.drop (i + 1) := by
  rw [List.drop_eq_getElem_cons h]
  simp [List.getD, h]
theorem extent_loop (l : List S26) (hl : l.length ≤ 1000000) (x y : Int) : ∀ (d i : Nat), l.length - i = d → i ≤ l.length → ∀ k, d < k → ∀ lo hi,
    impl_extent.l0 k lo hi l (l.length : Int) (i : Int) x y = some (loW x y lo (l.drop i), hiW x y hi (l.drop i)) := by
  intro d
  induction d with
  | zero =>
    intro i hd hi k hk lo hi'
    obtain ⟨k, rfl⟩ : ∃ j, k = j + 1 := ⟨k - 1, by omega⟩
    simp only [impl_extent.l0]
    rw [if_neg (by omega), List.drop_eq_nil_of_le (by omega)]
    rfl
  | succ d ih =>
    intro i hd hi k hk lo hi'
    obtain ⟨k, rfl⟩ : ∃ j, k = j + 1 := ⟨k - 1, by omega⟩
    simp only [impl_extent.l0]
    rw [if_pos (by omega), if_pos (by omega), if_pos (by omega), rd_T26_nat, cast_succ i (by omega)]
    simp only [impl_value.f, Option.bind_some]
    rw [ih (i + 1) (by omega) (by omega) k (by omega), drop_succ l i (by omega)]
    rfl
theorem width_eq (l : List S26) (hl : l.length ≤ 1000000) (h0 : 0 < l.length) (k : Nat) (hk : l.length < k) (x y : Int) : impl_width.f k l x y = some (widw l x y) := by
  unfold impl_width.f impl_extent.f
  rw [if_pos (by omega)]
  have e := rd_T26_nat l 0
  simp only [Int.natCast_zero] at e
  rw [e]
  simp only [impl_value.f, Option.bind_some]
  have := extent_loop l hl x y l.length 0 (by omega) (by omega) k hk (valw x y (l.getD 0 z26)) (valw x y (l.getD 0 z26))
  simp only [Int.natCast_zero, List.drop_zero] at this
  unfold valw at this
  rw [this]
  rfl
theorem least_eq (a b : Int) : spec_l1Least.f a b = some (mn a b) := by
  unfold spec_l1Least.f mn
  split
  · rw [if_neg (by omega)]
  · split
    · rfl
    · congr 1
      omega
theorem most_eq (a b : Int) : spec_l1Most.f a b = some (mx a b) := by
  unfold spec_l1Most.f mx
  split
  · rw [if_neg (by omega)]
  · split
    · rfl
    · congr 1
      omega
theorem range_loop (l : List S26) (hl : l.length ≤ 1000000) (x y : Int) : ∀ (d i : Nat), l.length - i = d → i ≤ l.length → ∀ k, d < k → ∀ lo hi,
    spec_wiRange.l0 k x y lo hi l (l.length : Int) (i : Int) = some (loW x y lo (l.drop i), hiW x y hi (l.drop i)) := by
  intro d
  induction d with
  | zero =>
    intro i hd hi k hk lo hi'
    obtain ⟨k, rfl⟩ : ∃ j, k = j + 1 := ⟨k - 1, by omega⟩
    simp only [spec_wiRange.l0]
    rw [if_neg (by omega), List.drop_eq_nil_of_le (by omega)]
    rfl
  | succ d ih =>
    intro i hd hi k hk lo hi'
    obtain ⟨k, rfl⟩ : ∃ j, k = j + 1 := ⟨k - 1, by omega⟩
    simp only [spec_wiRange.l0]
    rw [if_pos (by omega), if_pos (by omega), if_pos (by omega), rd_T26_nat, cast_succ i (by omega)]
    simp only [least_eq, most_eq, Option.bind_some]
    rw [ih (i + 1) (by omega) (by omega) k (by omega), drop_succ l i (by omega)]
    rfl
theorem wiWidth_eq (l : List S26) (hl : l.length ≤ 1000000) (h0 : 0 < l.length) (k : Nat) (hk : l.length < k) (x y : Int) : spec_wiWidth.f k l x y = some (widw l x y) := by
  unfold spec_wiWidth.f spec_wiRange.f
  rw [if_pos (by omega)]
  have e := rd_T26_nat l 0
  simp only [Int.natCast_zero] at e
  rw [e]
  have := range_loop l hl x y l.length 0 (by omega) (by omega) k hk (valw x y (l.getD 0 z26)) (valw x y (l.getD 0 z26))
  simp only [Int.natCast_zero, List.drop_zero] at this
  unfold valw at this
  rw [this]
  rfl
def dirOf (area v1 v2 w1 w2 m n : Int) : Int × Int := (Int.tdiv (m * w2 - n * v2) area, Int.tdiv (n * v1 - m * w1) area)
def told (l : List S26) (most area v1 v2 w1 w2 m n : Int) : Prop :=
  Int.tmod (m * w2 - n * v2) area = 0 ∧ Int.tmod (n * v1 - m * w1) area = 0 ∧ Int.gcd (dirOf area v1 v2 w1 w2 m n).1 (dirOf area v1 v2 w1 w2 m n).2 = 1 ∧
    (0 < (dirOf area v1 v2 w1 w2 m n).1 ∨ (dirOf area v1 v2 w1 w2 m n).1 = 0 ∧ (dirOf area v1 v2 w1 w2 m n).2 = 1) ∧ widw l (dirOf area v1 v2 w1 w2 m n).1 (dirOf area v1 v2 w1 w2 m n).2 ≤ most
instance (l : List S26) (most area v1 v2 w1 w2 m n : Int) : Decidable (told l most area v1 v2 w1 w2 m n) := by unfold told; infer_instance
def tell1 (l : List S26) (most area v1 v2 w1 w2 m : Int) : Int → Nat → List S26
  | _, 0 => []
  | n, d + 1 => (if told l most area v1 v2 w1 w2 m n then [⟨(dirOf area v1 v2 w1 w2 m n).1, (dirOf area v1 v2 w1 w2 m n).2⟩] else []) ++ tell1 l most area v1 v2 w1 w2 m (n + 1) d
def tell2 (l : List S26) (most area v1 v2 w1 w2 : Int) : Int → Nat → List S26
  | _, 0 => []
  | m, d + 1 => tell1 l most area v1 v2 w1 w2 m (-most) (2 * most + 1).toNat ++ tell2 l most area v1 v2 w1 w2 (m + 1) d
theorem tell1_len (l : List S26) (most area v1 v2 w1 w2 m : Int) : ∀ (d : Nat) (n : Int), (tell1 l most area v1 v2 w1 w2 m n d).length ≤ d
  | 0, _ => Nat.le_refl _
  | d + 1, n => by
    unfold tell1
    rw [List.length_append]
    have := tell1_len l most area v1 v2 w1 w2 m d (n + 1)
    split <;> simp <;> omega
theorem mem_tell1 (l : List S26) (most area v1 v2 w1 w2 m : Int) (s : S26) : ∀ (d : Nat) (n : Int), s ∈ tell1 l most area v1 v2 w1 w2 m n d ↔ ∃ i : Int, n ≤ i ∧ i < n + d ∧ told l most area v1 v2 w1 w2 m i ∧ s = ⟨(dirOf area v1 v2 w1 w2 m i).1, (dirOf area v1 v2 w1 w2 m i).2⟩
  | 0, n => by
    unfold tell1
    constructor
    · intro h
      cases h
    · rintro ⟨i, h1, h2, _⟩
      omega
  | d + 1, n => by
    unfold tell1
    rw [List.mem_append, mem_tell1 l most area v1 v2 w1 w2 m s d (n + 1)]
    constructor
    · rintro (h | ⟨i, h1, h2, h3⟩)
      · split at h
        · rename_i ht
          exact ⟨n, Int.le_refl _, by omega, ht, by simpa using h⟩
        · cases h
      · exact ⟨i, by omega, by omega, h3⟩
    · rintro ⟨i, h1, h2, h3, h4⟩
      by_cases e : i = n
      · subst e
        left
        rw [if_pos h3]
        simpa using h4
      · right
        exact ⟨i, by omega, by omega, h3, h4⟩
theorem mem_tell2 (l : List S26) (most area v1 v2 w1 w2 : Int) (hm : 0 ≤ most) (s : S26) : ∀ (d : Nat) (m : Int), s ∈ tell2 l most area v1 v2 w1 w2 m d ↔ ∃ j i : Int, m ≤ j ∧ j < m + d ∧ -most ≤ i ∧ i ≤ most ∧ told l most area v1 v2 w1 w2 j i ∧ s = ⟨(dirOf area v1 v2 w1 w2 j i).1, (dirOf area v1 v2 w1 w2 j i).2⟩
  | 0, m => by
    unfold tell2
    constructor
    · intro h
      cases h
    · rintro ⟨j, i, h1, h2, _⟩
      omega
  | d + 1, m => by
    unfold tell2
    rw [List.mem_append, mem_tell2 l most area v1 v2 w1 w2 hm s d (m + 1), mem_tell1]
    constructor
    · rintro (⟨i, h1, h2, h3⟩ | ⟨j, i, h1, h2, h3⟩)
      · exact ⟨m, i, by omega, by omega, h1, by omega, h3⟩
      · exact ⟨j, i, by omega, by omega, h3⟩
    · rintro ⟨j, i, h1, h2, h3, h4, h5⟩
      by_cases e : j = m
      · subst e
        left
        exact ⟨i, h3, by omega, h5⟩
      · right
        exact ⟨j, i, by omega, by omega, h3, h4, h5⟩
end Go.Proofs.Ytphpdfcblchpnaa.D
namespace Go.Proofs.Ytphpdfcblchpnaa.D
open Go.RowKit Go.Proofs.Ytphpdfcblchpnaa.Q Go.Proofs.YtphpdfcblchpnaaW.PrintWords Go.Proofs.YtphpdfcblchpnaaW.PrintLast Go.Proofs.YtphpdfcblchpnaaW.PrintMore
open Go.Proofs.Ytphpdfcblchpnaa.M
structure DB (l : List S26) (most area v1 v2 w1 w2 : Int) : Prop where
  h0 : 0 < l.length
  h1 : l.length ≤ 1000000
  m0 : 0 ≤ most
  m1 : most ≤ 200
  a0 : area ≠ 0
  v1l : -100 ≤ v1
  v1h : v1 ≤ 100
  v2l : -100 ≤ v2
  v2h : v2 ≤ 100
  w1l : -100 ≤ w1
  w1h : w1 ≤ 100
  w2l : -100 ≤ w2
  w2h : w2 ≤ 100
theorem prod_bd {a b : Int} (h1 : -201 ≤ a) (h2 : a ≤ 201) (h3 : -100 ≤ b) (h4 : b ≤ 100) : -40401 ≤ a * b ∧ a * b ≤ 40401 := by
  have := mul_bd (x := a) (y := b) (A := 201) h1 h2 (by omega) (by omega)
  omega
theorem tdiv_bd (x a : Int) (h1 : -100000 ≤ x) (h2 : x ≤ 100000) : -100000 ≤ Int.tdiv x a ∧ Int.tdiv x a ≤ 100000 := by
  have h : (Int.tdiv x a).natAbs = x.natAbs / a.natAbs := Int.natAbs_tdiv x a
  have := Nat.div_le_self x.natAbs a.natAbs
  generalize x.natAbs / a.natAbs = q at *
  generalize Int.tdiv x a = y at *
  omega
variable {l : List S26} {most area v1 v2 w1 w2 : Int}
theorem DB.xs (B : DB l most area v1 v2 w1 w2) {m n : Int} (hm1 : -most ≤ m) (hm2 : m ≤ most) (hn1 : -most ≤ n) (hn2 : n ≤ most) :
    wrap64 (wrap64 (m * w2) - wrap64 (n * v2)) = m * w2 - n * v2 ∧ wrap64 (wrap64 (n * v1) - wrap64 (m * w1)) = n * v1 - m * w1 ∧ -100000 ≤ m * w2 - n * v2 ∧ m * w2 - n * v2 ≤ 100000 ∧ -100000 ≤ n * v1 - m * w1 ∧ n * v1 - m * w1 ≤ 100000 := by
  obtain ⟨h0, h1, m0, m1, a0, v1l, v1h, v2l, v2h, w1l, w1h, w2l, w2h⟩ := B
  have a := prod_bd (a := m) (b := w2) (by omega) (by omega) w2l w2h
  have b := prod_bd (a := n) (b := v2) (by omega) (by omega) v2l v2h
  have c := prod_bd (a := n) (b := v1) (by omega) (by omega) v1l v1h
  have d := prod_bd (a := m) (b := w1) (by omega) (by omega) w1l w1h
  rw [w64 (x := m * w2) (by omega) (by omega), w64 (x := n * v2) (by omega) (by omega), w64 (x := n * v1) (by omega) (by omega), w64 (x := m * w1) (by omega) (by omega)]
  rw [w64 (by omega) (by omega), w64 (by omega) (by omega)]
  omega
theorem dir_pair (B : DB l most area v1 v2 w1 w2) {R : List S26} {m n : Int} (hm1 : -most ≤ m) (hm2 : m ≤ most) (hn1 : -most ≤ n) (hn2 : n ≤ most) (out : List S26) (hout : out.length ≤ 1000000)
    (next : Ev (fun k => impl_directions.l1 k l most (out ++ if told l most area v1 v2 w1 w2 m n then [⟨(dirOf area v1 v2 w1 w2 m n).1, (dirOf area v1 v2 w1 w2 m n).2⟩] else []) area m (n + 1) v1 v2 w1 w2) R) :
    Ev (fun k => impl_directions.l1 k l most out area m n v1 v2 w1 w2) R := by
  obtain ⟨ex, ey, x1, x2, y1, y2⟩ := B.xs hm1 hm2 hn1 hn2
  have en : wrap64 (n + 1) = n + 1 := by
    have := B.m1
    exact w64 (by omega) (by omega)
  have dx := tdiv_bd _ area x1 x2
  have dy := tdiv_bd _ area y1 y2
  have exd : wrap64 (Int.tdiv (m * w2 - n * v2) area) = Int.tdiv (m * w2 - n * v2) area := w64 (by omega) (by omega)
  have eyd : wrap64 (Int.tdiv (n * v1 - m * w1) area) = Int.tdiv (n * v1 - m * w1) area := w64 (by omega) (by omega)
  have ht : told l most area v1 v2 w1 w2 m n ↔ Int.tmod (m * w2 - n * v2) area = 0 ∧ Int.tmod (n * v1 - m * w1) area = 0 ∧ Int.gcd (Int.tdiv (m * w2 - n * v2) area) (Int.tdiv (n * v1 - m * w1) area) = 1 ∧
    (0 < Int.tdiv (m * w2 - n * v2) area ∨ Int.tdiv (m * w2 - n * v2) area = 0 ∧ Int.tdiv (n * v1 - m * w1) area = 1) ∧ widw l (Int.tdiv (m * w2 - n * v2) area) (Int.tdiv (n * v1 - m * w1) area) ≤ most := Iff.rfl
  have hd1 : (dirOf area v1 v2 w1 w2 m n).1 = Int.tdiv (m * w2 - n * v2) area := rfl
  have hd2 : (dirOf area v1 v2 w1 w2 m n).2 = Int.tdiv (n * v1 - m * w1) area := rfl
  rw [hd1, hd2] at next
  have no : ¬ told l most area v1 v2 w1 w2 m n → Ev (fun k => impl_directions.l1 k l most out area m (n + 1) v1 v2 w1 w2) R := by
    intro h
    rw [if_neg h, List.append_nil] at next
    exact next
  -- a pair that tells nothing
  have skip : ∀ b, b = true → ¬ (Int.tmod (m * w2 - n * v2) area = 0 ∧ Int.tmod (n * v1 - m * w1) area = 0) → Ev (fun k => impl_directions.j2 k l most out area m n (m * w2 - n * v2) (n * v1 - m * w1) b v1 v2 w1 w2) R := by
    intro b hb hno
    subst hb
    refine Ev.step (f := fun k => impl_directions.l1 k l most out area m (n + 1) v1 v2 w1 w2) (fun k => ?_) ?_
    · simp only [impl_directions.j2]
      rw [if_pos trivial, en]
    · exact no (fun h => hno ⟨(ht.1 h).1, (ht.1 h).2.1⟩)
  by_cases hx : Int.tmod (m * w2 - n * v2) area = 0
  · refine Ev.step (f := fun k => impl_directions.j2 k l most out area m n (m * w2 - n * v2) (n * v1 - m * w1) (Int.tmod (n * v1 - m * w1) area != 0) v1 v2 w1 w2) (fun k => ?_) ?_
    · simp only [impl_directions.l1]
      rw [if_pos hn2, if_neg B.a0, ex, ey, if_pos hx]
    by_cases hy : Int.tmod (n * v1 - m * w1) area = 0
    · rw [hy]
      generalize hX : Int.tdiv (m * w2 - n * v2) area = X at *
      generalize hY : Int.tdiv (n * v1 - m * w1) area = Y at *
      have hg := divisor_ev X Y (by omega) (by omega)
      have hW : Ev (fun k => impl_width.f k l X Y) (widw l X Y) := ⟨l.length + 1, fun k hk => width_eq l B.h1 B.h0 k (by omega) X Y⟩
      refine Ev.step (f := fun k => (impl_divisor.f k X Y).bind fun t => (if t = 1 then (if X > 0 then ((impl_width.f k l X Y).bind fun t2 => (if t2 ≤ most then impl_directions.l1 k l most (out ++ [⟨X, Y⟩]) area m (n + 1) v1 v2 w1 w2 else impl_directions.l1 k l most out area m (n + 1) v1 v2 w1 w2)) else
          (if X = 0 then (if Y = 1 then ((impl_width.f k l X Y).bind fun t2 => (if t2 ≤ most then impl_directions.l1 k l most (out ++ [⟨X, Y⟩]) area m (n + 1) v1 v2 w1 w2 else impl_directions.l1 k l most out area m (n + 1) v1 v2 w1 w2)) else impl_directions.l1 k l most out area m (n + 1) v1 v2 w1 w2) else impl_directions.l1 k l most out area m (n + 1) v1 v2 w1 w2)) else impl_directions.l1 k l most out area m (n + 1) v1 v2 w1 w2)) (fun k => ?_) ?_
      · simp only [impl_directions.j2]
        rw [hX, hY, exd, eyd, en, if_neg (by simp), if_neg B.a0]
        simp only [if_pos (show out.length < 8796093022208 from by omega)]
      refine Ev.bind hg ?_
      -- the width is asked
      have ask : (Int.gcd X Y = 1) → (0 < X ∨ X = 0 ∧ Y = 1) → Ev (fun k => (impl_width.f k l X Y).bind fun t2 => (if t2 ≤ most then impl_directions.l1 k l most (out ++ [⟨X, Y⟩]) area m (n + 1) v1 v2 w1 w2 else impl_directions.l1 k l most out area m (n + 1) v1 v2 w1 w2)) R := by
        intro hg1 hh
        refine Ev.bind hW ?_
        by_cases hw : widw l X Y ≤ most
        · rw [if_pos (ht.2 ⟨hx, hy, hg1, hh, hw⟩)] at next
          exact Ev.congr (fun k => by rw [if_pos hw]) next
        · exact Ev.congr (fun k => by rw [if_neg hw]) (no (fun h => hw (ht.1 h).2.2.2.2))
      have none' : ¬ (Int.gcd X Y = 1 ∧ (0 < X ∨ X = 0 ∧ Y = 1)) → Ev (fun k => impl_directions.l1 k l most out area m (n + 1) v1 v2 w1 w2) R := by
        intro h
        exact no (fun g => h ⟨(ht.1 g).2.2.1, (ht.1 g).2.2.2.1⟩)
      by_cases hg1 : Int.gcd X Y = 1
      · by_cases h1 : X > 0
        · exact Ev.congr (fun k => by rw [if_pos (by omega), if_pos h1]) (ask hg1 (.inl h1))
        · by_cases h2 : X = 0
          · by_cases h3 : Y = 1
            · exact Ev.congr (fun k => by rw [if_pos (by omega), if_neg h1, if_pos h2, if_pos h3]) (ask hg1 (.inr ⟨h2, h3⟩))
            · exact Ev.congr (fun k => by rw [if_pos (by omega), if_neg h1, if_pos h2, if_neg h3]) (none' (by omega))
          · exact Ev.congr (fun k => by rw [if_pos (by omega), if_neg h1, if_neg h2]) (none' (by omega))
      · exact Ev.congr (fun k => by rw [if_neg (by omega)]) (none' (by omega))
    · exact skip _ (by simpa using hy) (fun h => hy h.2)
  · refine Ev.step (f := fun k => impl_directions.j2 k l most out area m n (m * w2 - n * v2) (n * v1 - m * w1) true v1 v2 w1 w2) (fun k => ?_) (skip _ rfl (fun h => hx h.1))
    simp only [impl_directions.l1]
    rw [if_pos hn2, if_neg B.a0, ex, ey, if_neg hx]
theorem dir_row (B : DB l most area v1 v2 w1 w2) {R : List S26} {m : Int} (hm1 : -most ≤ m) (hm2 : m ≤ most) : ∀ (d : Nat) (n : Int) (out : List S26), n + d = most + 1 → -most ≤ n → out.length + d ≤ 1000000 →
    Ev (fun k => impl_directions.l0 k l most (out ++ tell1 l most area v1 v2 w1 w2 m n d) area (m + 1) v1 v2 w1 w2) R → Ev (fun k => impl_directions.l1 k l most out area m n v1 v2 w1 w2) R
  | 0, n, out, hn, _, _, h => by
    have em : wrap64 (m + 1) = m + 1 := by
      have := B.m1
      exact w64 (by omega) (by omega)
    unfold tell1 at h
    rw [List.append_nil] at h
    refine Ev.step (fun k => ?_) h
    simp only [impl_directions.l1]
    rw [if_neg (by omega), em]
  | d + 1, n, out, hn, hn1, ho, h => by
    refine dir_pair B hm1 hm2 hn1 (by omega) out (by omega) ?_
    refine dir_row B hm1 hm2 d (n + 1) _ (by omega) (by omega) ?_ ?_
    · rw [List.length_append]
      split <;> simp <;> omega
    · unfold tell1 at h
      rw [List.append_assoc]
      exact h
theorem dir_rows (B : DB l most area v1 v2 w1 w2) : ∀ (d : Nat) (m : Int) (out : List S26), m + d = most + 1 → -most ≤ m → out.length + d * 401 ≤ 1000000 →
    0 < (out ++ tell2 l most area v1 v2 w1 w2 m d).length → Ev (fun k => impl_directions.l0 k l most out area m v1 v2 w1 w2) (YtphpdfcblchpnaaH.sortPg (out ++ tell2 l most area v1 v2 w1 w2 m d))
  | 0, m, out, hn, _, ho, h => by
    unfold tell2 at h ⊢
    rw [List.append_nil] at h ⊢
    refine Ev.step (f := fun _ => some (YtphpdfcblchpnaaH.sortPg out)) (fun k => ?_) (Ev.now _)
    simp only [impl_directions.l0]
    rw [if_neg (by omega)]
    unfold impl_sorted.f
    rw [if_pos ⟨h, by omega⟩]
    rfl
  | d + 1, m, out, hn, hn1, ho, h => by
    have hm := B.m1
    have hm0 := B.m0
    have e : wrap64 (-most) = -most := w64 (by omega) (by omega)
    have hlen := tell1_len l most area v1 v2 w1 w2 m (2 * most + 1).toNat (-most)
    unfold tell2 at h ⊢
    rw [← List.append_assoc] at h ⊢
    refine Ev.step (f := fun k => impl_directions.l1 k l most out area m (-most) v1 v2 w1 w2) (fun k => ?_) ?_
    · simp only [impl_directions.l0]
      rw [if_pos (by omega), e]
    · refine dir_row B hn1 (by omega) (2 * most + 1).toNat (-most) out (by omega) (by omega) (by omega) ?_
      exact dir_rows B d (m + 1) _ (by omega) (by omega) (by rw [List.length_append]; omega) h
theorem directions_ev (hl : 3 ≤ l.length) (e1 : wrap64 ((l.getD 1 z26).f0 - (l.getD 0 z26).f0) = v1) (e2 : wrap64 ((l.getD 1 z26).f1 - (l.getD 0 z26).f1) = v2) (e3 : wrap64 ((l.getD 2 z26).f0 - (l.getD 0 z26).f0) = w1)
    (e4 : wrap64 ((l.getD 2 z26).f1 - (l.getD 0 z26).f1) = w2) (e5 : wrap64 (wrap64 (v1 * w2) - wrap64 (v2 * w1)) = area) (B : DB l most area v1 v2 w1 w2) (hn : 0 < (tell2 l most area v1 v2 w1 w2 (-most) (2 * most + 1).toNat).length) :
    Ev (fun k => impl_directions.f k l most) (YtphpdfcblchpnaaH.sortPg (tell2 l most area v1 v2 w1 w2 (-most) (2 * most + 1).toNat)) := by
  have hm := B.m1
  have hm0 := B.m0
  have e : wrap64 (-most) = -most := w64 (by omega) (by omega)
  have r0 := rd_T26_nat l 0
  have r1 := rd_T26_nat l 1
  have r2 := rd_T26_nat l 2
  simp only [Int.natCast_zero, Int.natCast_one] at r0 r1
  have r2 : rd_T26 l 2 = l.getD 2 z26 := r2
  have key := dir_rows B (2 * most + 1).toNat (-most) [] (by omega) (by omega) (by simp; omega) hn
  rw [List.nil_append] at key
  refine Ev.congr (fun k => ?_) key
  unfold impl_directions.f
  rw [if_pos (by omega), if_pos (by omega)]
  simp only [impl_Peg_less.f, impl_cross.f, Option.bind_some]
  rw [if_pos (by omega), r0, r1, r2, e1, e2, e3, e4, e5, e]
end Go.Proofs.Ytphpdfcblchpnaa.D
namespace Go.Proofs.Ytphpdfcblchpnaa.D
open Go.RowKit Go.Proofs.Ytphpdfcblchpnaa.Q Go.Proofs.YtphpdfcblchpnaaW.PrintWords Go.Proofs.YtphpdfcblchpnaaW.PrintLast Go.Proofs.YtphpdfcblchpnaaW.PrintMore
open Go.Proofs.Ytphpdfcblchpnaa.M
variable {l : List S26} {most area v1 v2 w1 w2 : Int}
def Many (f : Nat → Option (List (List Int))) (N : Nat) : Prop := ∃ R, Ev f R ∧ R.length = N
theorem Many.step {g f : Nat → Option (List (List Int))} {N : Nat} (h : ∀ k, g (k + 1) = f k) (k : Many f N) : Many g N := by
  obtain ⟨R, hR, e⟩ := k
  exact ⟨R, Ev.step h hR, e⟩
theorem Many.congr {g f : Nat → Option (List (List Int))} {N : Nat} (h : ∀ k, g k = f k) (k : Many f N) : Many g N := by
  obtain ⟨R, hR, e⟩ := k
  exact ⟨R, Ev.congr h hR, e⟩
theorem Many.bind {α : Type} {g : Nat → Option α} {f : Nat → α → Option (List (List Int))} {a : α} {N : Nat} (h : Ev g a) (k : Many (fun n => f n a) N) : Many (fun n => (g n).bind (f n)) N := by
  obtain ⟨R, hR, e⟩ := k
  exact ⟨R, Ev.bind h hR, e⟩
def all2 (out : List (List Int)) : Prop := ∀ e ∈ out, e.length = 2
theorem rd_L6_len {out : List (List Int)} (h : all2 out) (j : Nat) (hj : j < out.length) : (rd_L6 out (j : Int)).length = 2 := by
  apply h
  simp [rd_L6, List.getD, hj]
theorem insert_many {N : Nat} {m n x y : Int} {out : List (List Int)} (hn : wrap64 (n + 1) = n + 1) (h2 : all2 out) (hout : out.length ≤ 1000000)
    (next : ∀ out', out'.length = out.length + 1 → all2 out' → Many (fun k => spec_wiAll.l1 k l most area out' m (n + 1) v1 v2 w1 w2) N) :
    ∀ j : Nat, j ≤ out.length → Many (fun k => spec_wiAll.l2 k l most area out m n x y (j : Int) v1 v2 w1 w2) N := by
  have stop : ∀ j : Nat, j ≤ out.length → Many (fun k => spec_wiAll.j5 k l most area out m n x y (j : Int) false v1 v2 w1 w2) N := by
    intro j hj
    refine Many.step (f := fun k => spec_wiAll.l1 k l most area (([] ++ out.take j ++ [[x, y]]) ++ out.drop j) m (n + 1) v1 v2 w1 w2) (fun k => ?_) (next _ ?_ ?_)
    · simp only [spec_wiAll.j5]
      rw [if_neg (by simp)]
      simp only [Option.bind_some]
      rw [if_pos (by omega), if_pos (by omega), Int.toNat_natCast, hn]
      rw [if_pos (by simp; omega), if_pos (by simp; omega), if_pos (by simp; omega)]
    · simp
      omega
    · intro e he
      simp at he
      rcases he with he | rfl | he
      · exact h2 e (List.mem_of_mem_take he)
      · rfl
      · exact h2 e (List.mem_of_mem_drop he)
  intro j
  induction j with
  | zero =>
    intro hj
    refine Many.step (fun k => ?_) (stop 0 hj)
    simp only [spec_wiAll.l2]
    rw [if_neg (by omega)]
  | succ j ih =>
    intro hj
    have e : wrap64 (((j + 1 : Nat) : Int) - 1) = (j : Int) := by
      rw [w64 (by omega) (by omega)]
      omega
    have hr := rd_L6_len h2 j (by omega)
    have go : Many (fun k => spec_wiAll.j5 k l most area out m n x y ((j + 1 : Nat) : Int) true v1 v2 w1 w2) N := by
      refine Many.step (fun k => ?_) (ih (by omega))
      simp only [spec_wiAll.j5]
      rw [if_pos trivial, e]
    by_cases c1 : x < rd (rd_L6 out (j : Int)) 0
    · refine Many.step (fun k => ?_) go
      simp only [spec_wiAll.l2]
      rw [if_pos (by omega), e, if_pos (by omega), if_pos (by omega), if_pos (by omega), if_pos c1]
    · by_cases c2 : x = rd (rd_L6 out (j : Int)) 0
      · by_cases c3 : y < rd (rd_L6 out (j : Int)) 1
        · refine Many.step (fun k => ?_) go
          simp only [spec_wiAll.l2]
          rw [if_pos (by omega), e, if_pos (by omega), if_pos (by omega), if_pos (by omega), if_neg c1, if_pos c2, if_pos (by omega), decide_eq_true c3]
        · refine Many.step (fun k => ?_) (stop (j + 1) hj)
          simp only [spec_wiAll.l2]
          rw [if_pos (by omega), e, if_pos (by omega), if_pos (by omega), if_pos (by omega), if_neg c1, if_pos c2, if_pos (by omega), decide_eq_false c3]
      · refine Many.step (fun k => ?_) (stop (j + 1) hj)
        simp only [spec_wiAll.l2]
        rw [if_pos (by omega), e, if_pos (by omega), if_pos (by omega), if_pos (by omega), if_neg c1, if_neg c2]
theorem gcd_zero_left {y : Int} (h : Int.gcd 0 y = 1) (hy : 0 < y) : y = 1 := by
  rw [Int.gcd_zero_left] at h
  omega
theorem all_pair (B : DB l most area v1 v2 w1 w2) {N : Nat} {m n : Int} (hm1 : -most ≤ m) (hm2 : m ≤ most) (hn1 : -most ≤ n) (hn2 : n ≤ most) (out : List (List Int)) (hout : out.length ≤ 1000000) (h2 : all2 out)
    (next : ∀ out', out'.length = out.length + (if told l most area v1 v2 w1 w2 m n then 1 else 0) → all2 out' → Many (fun k => spec_wiAll.l1 k l most area out' m (n + 1) v1 v2 w1 w2) N) :
    Many (fun k => spec_wiAll.l1 k l most area out m n v1 v2 w1 w2) N := by
  obtain ⟨ex, ey, x1, x2, y1, y2⟩ := B.xs hm1 hm2 hn1 hn2
  have en : wrap64 (n + 1) = n + 1 := by
    have := B.m1
    exact w64 (by omega) (by omega)
  have dx := tdiv_bd _ area x1 x2
  have dy := tdiv_bd _ area y1 y2
  have exd : wrap64 (Int.tdiv (m * w2 - n * v2) area) = Int.tdiv (m * w2 - n * v2) area := w64 (by omega) (by omega)
  have eyd : wrap64 (Int.tdiv (n * v1 - m * w1) area) = Int.tdiv (n * v1 - m * w1) area := w64 (by omega) (by omega)
  have ht : told l most area v1 v2 w1 w2 m n ↔ Int.tmod (m * w2 - n * v2) area = 0 ∧ Int.tmod (n * v1 - m * w1) area = 0 ∧ Int.gcd (Int.tdiv (m * w2 - n * v2) area) (Int.tdiv (n * v1 - m * w1) area) = 1 ∧
    (0 < Int.tdiv (m * w2 - n * v2) area ∨ Int.tdiv (m * w2 - n * v2) area = 0 ∧ Int.tdiv (n * v1 - m * w1) area = 1) ∧ widw l (Int.tdiv (m * w2 - n * v2) area) (Int.tdiv (n * v1 - m * w1) area) ≤ most := Iff.rfl
  have no : ¬ told l most area v1 v2 w1 w2 m n → Many (fun k => spec_wiAll.l1 k l most area out m (n + 1) v1 v2 w1 w2) N := by
    intro h
    exact next out (by rw [if_neg h]; rfl) h2
  have skip : ∀ b, b = true → ¬ (Int.tmod (m * w2 - n * v2) area = 0 ∧ Int.tmod (n * v1 - m * w1) area = 0) → Many (fun k => spec_wiAll.j2 k l most area out m n (m * w2 - n * v2) (n * v1 - m * w1) b v1 v2 w1 w2) N := by
    intro b hb hno
    subst hb
    refine Many.step (f := fun k => spec_wiAll.l1 k l most area out m (n + 1) v1 v2 w1 w2) (fun k => ?_) (no (fun h => hno ⟨(ht.1 h).1, (ht.1 h).2.1⟩))
    simp only [spec_wiAll.j2]
    rw [if_pos trivial, en]
  by_cases hx : Int.tmod (m * w2 - n * v2) area = 0
  · refine Many.step (f := fun k => spec_wiAll.j2 k l most area out m n (m * w2 - n * v2) (n * v1 - m * w1) (Int.tmod (n * v1 - m * w1) area != 0) v1 v2 w1 w2) (fun k => ?_) ?_
    · simp only [spec_wiAll.l1]
      rw [if_pos hn2, if_neg B.a0, ex, ey, if_pos hx]
    by_cases hy : Int.tmod (n * v1 - m * w1) area = 0
    · rw [hy]
      generalize hX : Int.tdiv (m * w2 - n * v2) area = X at *
      generalize hY : Int.tdiv (n * v1 - m * w1) area = Y at *
      have hg := pgCommon_ev X Y (by omega) (by omega)
      have hW : Ev (fun k => spec_wiWidth.f k l X Y) (widw l X Y) := ⟨l.length + 1, fun k hk => wiWidth_eq l B.h1 B.h0 k (by omega) X Y⟩
      have jt : ¬ told l most area v1 v2 w1 w2 m n → Many (fun k => spec_wiAll.j3 k l most area out m n X Y true v1 v2 w1 w2) N := by
        intro h
        refine Many.step (fun k => ?_) (no h)
        simp only [spec_wiAll.j3]
        rw [if_pos trivial, en]
      have ask : (0 < X ∨ X = 0 ∧ 1 ≤ Y) → Many (fun k => (spec_pgCommon.f k X Y).bind fun t => (if t = 1 then ((spec_wiWidth.f k l X Y).bind fun t2 => (spec_wiAll.j3 k l most area out m n X Y (decide (t2 > most)) v1 v2 w1 w2)) else (spec_wiAll.j3 k l most area out m n X Y true v1 v2 w1 w2))) N := by
        intro hh
        refine Many.bind hg ?_
        by_cases hg1 : Int.gcd X Y = 1
        · refine Many.congr (fun k => if_pos (by omega)) ?_
          refine Many.bind hW ?_
          by_cases hw : widw l X Y ≤ most
          · have hT : told l most area v1 v2 w1 w2 m n := by
              refine ht.2 ⟨hx, hy, hg1, ?_, hw⟩
              rcases hh with h | ⟨h, h'⟩
              · exact .inl h
              · subst h
                exact .inr ⟨rfl, gcd_zero_left hg1 (by omega)⟩
            rw [decide_eq_false (by omega)]
            refine Many.step (f := fun k => spec_wiAll.l2 k l most area out m n X Y (out.length : Int) v1 v2 w1 w2) (fun k => ?_) (insert_many en h2 hout (fun out' h1 h3 => next out' (by rw [if_pos hT]; exact h1) h3) out.length (Nat.le_refl _))
            simp only [spec_wiAll.j3]
            rw [if_neg (by simp)]
          · rw [decide_eq_true (by omega)]
            exact jt (fun h => hw (ht.1 h).2.2.2.2)
        · exact Many.congr (fun k => if_neg (by omega)) (jt (fun h => hg1 (ht.1 h).2.2.1))
      by_cases h1 : X < 0
      · refine Many.step (fun k => ?_) (jt (fun h => by have := (ht.1 h).2.2.2.1; omega))
        simp only [spec_wiAll.j2]
        rw [hX, hY, exd, eyd, if_neg (by simp), if_neg B.a0, if_pos h1]
      · by_cases h3 : X = 0
        · by_cases h4 : Y < 1
          · refine Many.step (fun k => ?_) (jt (fun h => by have := (ht.1 h).2.2.2.1; omega))
            simp only [spec_wiAll.j2]
            rw [hX, hY, exd, eyd, if_neg (by simp), if_neg B.a0, if_neg h1, if_pos h3, if_pos h4]
          · refine Many.step (fun k => ?_) (ask (.inr ⟨h3, by omega⟩))
            simp only [spec_wiAll.j2]
            rw [hX, hY, exd, eyd, if_neg (by simp), if_neg B.a0, if_neg h1, if_pos h3, if_neg h4]
        · refine Many.step (fun k => ?_) (ask (.inl (by omega)))
          simp only [spec_wiAll.j2]
          rw [hX, hY, exd, eyd, if_neg (by simp), if_neg B.a0, if_neg h1, if_neg h3]
    · exact skip _ (by simpa using hy) (fun h => hy h.2)
  · refine Many.step (f := fun k => spec_wiAll.j2 k l most area out m n (m * w2 - n * v2) (n * v1 - m * w1) true v1 v2 w1 w2) (fun k => ?_) (skip _ rfl (fun h => hx h.1))
    simp only [spec_wiAll.l1]
    rw [if_pos hn2, if_neg B.a0, ex, ey, if_neg hx]
theorem all_row (B : DB l most area v1 v2 w1 w2) {N : Nat} {m : Int} (hm1 : -most ≤ m) (hm2 : m ≤ most) : ∀ (d : Nat) (n : Int) (out : List (List Int)), n + d = most + 1 → -most ≤ n → out.length + d ≤ 1000000 → all2 out →
    (∀ out', out'.length = out.length + (tell1 l most area v1 v2 w1 w2 m n d).length → all2 out' → Many (fun k => spec_wiAll.l0 k l most area out' (m + 1) v1 v2 w1 w2) N) → Many (fun k => spec_wiAll.l1 k l most area out m n v1 v2 w1 w2) N
  | 0, n, out, hn, _, _, h2, h => by
    have em : wrap64 (m + 1) = m + 1 := by
      have := B.m1
      exact w64 (by omega) (by omega)
    refine Many.step (fun k => ?_) (h out (by unfold tell1; rfl) h2)
    simp only [spec_wiAll.l1]
    rw [if_neg (by omega), em]
  | d + 1, n, out, hn, hn1, ho, h2, h => by
    refine all_pair B hm1 hm2 hn1 (by omega) out (by omega) h2 (fun out' h3 h4 => ?_)
    refine all_row B hm1 hm2 d (n + 1) out' (by omega) (by omega) (by split at h3 <;> omega) h4 (fun out'' h5 h6 => h out'' ?_ h6)
    unfold tell1
    rw [List.length_append, h5, h3]
    split <;> simp <;> omega
theorem all_rows (B : DB l most area v1 v2 w1 w2) {N : Nat} : ∀ (d : Nat) (m : Int) (out : List (List Int)), m + d = most + 1 → -most ≤ m → out.length + d * 401 ≤ 1000000 → all2 out →
    out.length + (tell2 l most area v1 v2 w1 w2 m d).length = N → Many (fun k => spec_wiAll.l0 k l most area out m v1 v2 w1 w2) N
  | 0, m, out, hn, _, ho, h2, h => by
    refine ⟨out, Ev.step (f := fun _ => some out) (fun k => ?_) (Ev.now _), ?_⟩
    · simp only [spec_wiAll.l0]
      rw [if_neg (by omega)]
    · unfold tell2 at h
      simpa using h
  | d + 1, m, out, hn, hn1, ho, h2, h => by
    have hm := B.m1
    have hm0 := B.m0
    have e : wrap64 (-most) = -most := w64 (by omega) (by omega)
    have hlen := tell1_len l most area v1 v2 w1 w2 m (2 * most + 1).toNat (-most)
    unfold tell2 at h
    rw [List.length_append] at h
    refine Many.step (f := fun k => spec_wiAll.l1 k l most area out m (-most) v1 v2 w1 w2) (fun k => ?_) ?_
    · simp only [spec_wiAll.l0]
      rw [if_pos (by omega), e]
    · refine all_row B hn1 (by omega) (2 * most + 1).toNat (-most) out (by omega) (by omega) (by omega) h2 (fun out' h3 h4 => ?_)
      exact all_rows B d (m + 1) out' (by omega) (by omega) (by omega) h4 (by omega)
theorem wiAll_many (hl : 3 ≤ l.length) (e1 : wrap64 ((l.getD 1 z26).f0 - (l.getD 0 z26).f0) = v1) (e2 : wrap64 ((l.getD 1 z26).f1 - (l.getD 0 z26).f1) = v2) (e3 : wrap64 ((l.getD 2 z26).f0 - (l.getD 0 z26).f0) = w1)
    (e4 : wrap64 ((l.getD 2 z26).f1 - (l.getD 0 z26).f1) = w2) (e5 : wrap64 (wrap64 (v1 * w2) - wrap64 (v2 * w1)) = area) (B : DB l most area v1 v2 w1 w2) :
    Many (fun k => spec_wiAll.f k l most) (tell2 l most area v1 v2 w1 w2 (-most) (2 * most + 1).toNat).length := by
  have hm := B.m1
  have hm0 := B.m0
  have e : wrap64 (-most) = -most := w64 (by omega) (by omega)
  have r0 := rd_T26_nat l 0
  have r1 := rd_T26_nat l 1
  simp only [Int.natCast_zero, Int.natCast_one] at r0 r1
  have r2 : rd_T26 l 2 = l.getD 2 z26 := rd_T26_nat l 2
  refine Many.congr (fun k => ?_) (all_rows B (2 * most + 1).toNat (-most) [] (by omega) (by omega) (by simp; omega) (fun e he => by cases he) (Nat.zero_add _))
  unfold spec_wiAll.f
  rw [if_pos (by omega), if_pos (by omega), if_pos (by omega), r0, r1, r2, e1, e2, e3, e4, e5, e]
end Go.Proofs.Ytphpdfcblchpnaa.D
namespace Go.Proofs.Ytphpdfcblchpnaa.D
open Go.RowKit Go.Proofs.Ytphpdfcblchpnaa.Q Go.Proofs.YtphpdfcblchpnaaW.PrintWords Go.Proofs.YtphpdfcblchpnaaW.PrintLast Go.Proofs.YtphpdfcblchpnaaW.PrintMore
open Go.Proofs.Ytphpdfcblchpnaa.M
theorem wiLeast_ev {l : List S26} {q0 : Int} (len : Int → Nat) (hq1 : 1 ≤ q0) (hq2 : q0 ≤ 200) (hall : ∀ q, 1 ≤ q → q ≤ q0 → Many (fun k => spec_wiAll.f k l q) (len q)) (h1 : 0 < len q0) (h2 : ∀ q, 1 ≤ q → q < q0 → len q = 0) :
    ∃ R, Ev (fun k => spec_wiLeast.f k l) (q0, R) := by
  have key : ∀ d : Nat, ∀ q : Int, q + d = q0 → 1 ≤ q → ∃ R, Ev (fun k => spec_wiLeast.l0 k l q) (q0, R) := by
    intro d
    induction d with
    | zero =>
      intro q hq hq1
      obtain rfl : q = q0 := by omega
      obtain ⟨R, hR, hl⟩ := hall q hq1 (by omega)
      refine ⟨R, Ev.step (f := fun k => (spec_wiAll.f k l q).bind fun t => (if (t.length : Int) > 0 then some (q, t) else spec_wiLeast.l0 k l (wrap64 (q + 1)))) (fun k => rfl) (Ev.bind hR ?_)⟩
      exact Ev.congr (fun k => if_pos (by omega)) (Ev.now _)
    | succ d ih =>
      intro q hq hq1
      obtain ⟨R, hR, hl⟩ := hall q hq1 (by omega)
      have hz := h2 q hq1 (by omega)
      obtain ⟨R', hR'⟩ := ih (q + 1) (by omega) (by omega)
      refine ⟨R', Ev.step (f := fun k => (spec_wiAll.f k l q).bind fun t => (if (t.length : Int) > 0 then some (q, t) else spec_wiLeast.l0 k l (wrap64 (q + 1)))) (fun k => rfl) (Ev.bind hR ?_)⟩
      rw [w64 (x := q + 1) (by omega) (by omega)]
      exact Ev.congr (fun k => if_neg (by omega)) hR'
  exact key (q0 - 1).toNat 1 (by omega) (by omega)
theorem loW_le (x y : Int) : ∀ (l : List S26) (m : Int), loW x y m l ≤ m ∧ ∀ p ∈ l, loW x y m l ≤ valw x y p
  | [], m => ⟨Int.le_refl _, fun p hp => by cases hp⟩
  | a :: l, m => by
    obtain ⟨h1, h2⟩ := loW_le x y l (mn m (valw x y a))
    rw [mn_eq] at h1 h2
    unfold loW at h1 h2 ⊢
    rw [List.foldl_cons, mn_eq]
    refine ⟨by omega, fun p hp => ?_⟩
    rcases List.mem_cons.1 hp with rfl | hp
    · omega
    · exact h2 p hp
theorem hiW_ge (x y : Int) : ∀ (l : List S26) (m : Int), m ≤ hiW x y m l ∧ ∀ p ∈ l, valw x y p ≤ hiW x y m l
  | [], m => ⟨Int.le_refl _, fun p hp => by cases hp⟩
  | a :: l, m => by
    obtain ⟨h1, h2⟩ := hiW_ge x y l (mx m (valw x y a))
    rw [mx_eq] at h1 h2
    unfold hiW at h1 h2 ⊢
    rw [List.foldl_cons, mx_eq]
    refine ⟨by omega, fun p hp => ?_⟩
    rcases List.mem_cons.1 hp with rfl | hp
    · omega
    · exact h2 p hp
theorem loW_ge (x y A : Int) : ∀ (l : List S26) (m : Int), A ≤ m → (∀ p ∈ l, A ≤ valw x y p) → A ≤ loW x y m l
  | [], m, h, _ => h
  | a :: l, m, h, k => by
    have := k a (by simp)
    refine loW_ge x y A l (mn m (valw x y a)) (by rw [mn_eq]; omega) (fun p hp => k p (by simp [hp]))
theorem hiW_le (x y A : Int) : ∀ (l : List S26) (m : Int), m ≤ A → (∀ p ∈ l, valw x y p ≤ A) → hiW x y m l ≤ A
  | [], m, h, _ => h
  | a :: l, m, h, k => by
    have := k a (by simp)
    refine hiW_le x y A l (mx m (valw x y a)) (by rw [mx_eq]; omega) (fun p hp => k p (by simp [hp]))
def near (l : List S26) : Prop := ∀ p ∈ l, isPeg (pg p)
theorem valw_eq {x y : Int} {p : S26} (hx1 : -100000 ≤ x) (hx2 : x ≤ 100000) (hy1 : -100000 ≤ y) (hy2 : y ≤ 100000) (hp : isPeg (pg p)) : valw x y p = x * p.f0 + y * p.f1 ∧ -10000000000000 ≤ valw x y p ∧ valw x y p ≤ 10000000000000 := by
  obtain ⟨a, b, c, d⟩ := hp
  have a : -40 ≤ p.f0 := a
  have b : p.f0 ≤ 40 := b
  have c : -40 ≤ p.f1 := c
  have d : p.f1 ≤ 40 := d
  have e := mul_bd (x := x) (y := p.f0) (A := 100000) hx1 hx2 (by omega) (by omega)
  have f := mul_bd (x := y) (y := p.f1) (A := 100000) hy1 hy2 (by omega) (by omega)
  unfold valw
  rw [w64 (x := x * p.f0) (by omega) (by omega), w64 (x := y * p.f1) (by omega) (by omega), w64 (by omega) (by omega)]
  omega
theorem widw_ge {l : List S26} {x y : Int} (hl : 0 < l.length) (hx1 : -100000 ≤ x) (hx2 : x ≤ 100000) (hy1 : -100000 ≤ y) (hy2 : y ≤ 100000) (hn : near l) {p q : S26} (hp : p ∈ l) (hq : q ∈ l) :
    x * (p.f0 - q.f0) + y * (p.f1 - q.f1) ≤ widw l x y := by
  have h0 : l.getD 0 z26 ∈ l := by
    rw [List.getD_eq_getElem?_getD, List.getElem?_eq_getElem hl]
    exact List.getElem_mem _
  have v0 := valw_eq hx1 hx2 hy1 hy2 (hn _ h0)
  have vp := valw_eq hx1 hx2 hy1 hy2 (hn _ hp)
  have vq := valw_eq hx1 hx2 hy1 hy2 (hn _ hq)
  have a1 := (loW_le x y l (valw x y (l.getD 0 z26))).2 q hq
  have a2 := (hiW_ge x y l (valw x y (l.getD 0 z26))).2 p hp
  have a3 := loW_ge x y (-10000000000000) l (valw x y (l.getD 0 z26)) v0.2.1 (fun p hp => (valw_eq hx1 hx2 hy1 hy2 (hn _ hp)).2.1)
  have a4 := hiW_le x y 10000000000000 l (valw x y (l.getD 0 z26)) v0.2.2 (fun p hp => (valw_eq hx1 hx2 hy1 hy2 (hn _ hp)).2.2)
  have a5 := (loW_le x y l (valw x y (l.getD 0 z26))).1
  have a6 := (hiW_ge x y l (valw x y (l.getD 0 z26))).1
  unfold widw
  rw [w64 (by omega) (by omega)]
  have e : x * (p.f0 - q.f0) + y * (p.f1 - q.f1) = (x * p.f0 + y * p.f1) - (x * q.f0 + y * q.f1) := by grind
  omega
theorem widw_le {l : List S26} {x y A : Int} (hl : 0 < l.length) (hA : A ≤ 4000000) (hx1 : -100000 ≤ x) (hx2 : x ≤ 100000) (hy1 : -100000 ≤ y) (hy2 : y ≤ 100000) (hn : near l) (h : ∀ p ∈ l, -A ≤ x * p.f0 + y * p.f1 ∧ x * p.f0 + y * p.f1 ≤ A) :
    widw l x y ≤ 2 * A := by
  have h0 : l.getD 0 z26 ∈ l := by
    rw [List.getD_eq_getElem?_getD, List.getElem?_eq_getElem hl]
    exact List.getElem_mem _
  have v0 := valw_eq hx1 hx2 hy1 hy2 (hn _ h0)
  have b0 := h _ h0
  have a3 := loW_ge x y (-A) l (valw x y (l.getD 0 z26)) (by omega) (fun p hp => by have := valw_eq hx1 hx2 hy1 hy2 (hn _ hp); have := h p hp; omega)
  have a4 := hiW_le x y A l (valw x y (l.getD 0 z26)) (by omega) (fun p hp => by have := valw_eq hx1 hx2 hy1 hy2 (hn _ hp); have := h p hp; omega)
  have a5 := (loW_le x y l (valw x y (l.getD 0 z26))).1
  have a6 := (hiW_ge x y l (valw x y (l.getD 0 z26))).1
  unfold widw
  rw [w64 (by omega) (by omega)]
  omega
end Go.Proofs.Ytphpdfcblchpnaa.D
