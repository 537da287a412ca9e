/- Parts of the proof: printed texts, words and own texts, cut to what is used. -/
import Derived.ArgAppend
import Derived.Below
import Derived.BigQuiet
import Derived.Deep.AppendLies
import Derived.Deep.CutBlock
import Derived.Deep.DeepCutAuto
import Derived.Deep.Draws
import Derived.Deep.LoopGhost
import Derived.Deep.OwnRows
import Derived.Deep.QuietTactic
import Derived.Deep.RegionHeld3
import Derived.KernelRfl
import Derived.Laws.BitsLemmas
import Derived.Laws.BytesArg
import Derived.Laws.IdiomCopy
import Derived.Laws.MakeOwn
import Derived.Laws.OwnMore
import Derived.Laws.Rows
import Derived.Laws.Slices
import Derived.Lib.AppendStr
import Derived.Lib.ConvBytes
import Derived.Maps.AppendAt
import Derived.OrdersHeld
import Derived.OwnWalk
import Derived.RowKit
import Derived.RowKit3
import Derived.Tactics
import Derived.Test.YtphpdfcblchpnaaProg
import Derived.WalkKit
import Derived.WideLaws
import Derived.Test.YtphpdfcblchpnaaZL0
namespace Go.Proofs.Ytphpdfcblchpnaa.Q
open Go.RowKit Go.Proofs.YtphpdfcblchpnaaW.PrintWords Go.Proofs.YtphpdfcblchpnaaW.PrintLast Go.Proofs.YtphpdfcblchpnaaW.PrintMore
attribute [local go_sem] max2_int min2_int max_two min_two max_three min_three max_four min_four   -- for this text's walks alone
set_option linter.unusedVariables false
set_option linter.unusedSimpArgs false
def errW : Option Int → Value
 | none => .nilIface
 | some c => .iface 0 (.int .i64 c)
theorem errW_none : errW none = .nilIface := rfl
theorem errW_some (c : Int) : errW (some c) = .iface 0 (.int .i64 c) := rfl
theorem info24 : (Try.prog.info? 24).map (fun i => (i.zero, i.size, i.bytes)) = some (some (.slice none 0 0), 1, 24) := by kernel_rfl
theorem info26 : (Try.prog.info? 26).map (fun i => (i.zero, i.size, i.bytes)) = some (some (.agg #[(.int .i64 0), (.int .i64 0)]), 2, 16) := by kernel_rfl
structure S26 where
 f0 : Int
 f1 : Int
def z26 : S26 := ⟨(0 : Int), (0 : Int)⟩
def k26 : Kd S26 := Kd.iso (Kd.pair (Kd.int .i64) (Kd.int .i64)) (fun x : S26 => (x.f0, x.f1))
theorem k26_heap : Kd.Heap k26 := Kd.heap_iso _ (Kd.heap_pair (Kd.heap_int .i64) (Kd.heap_int .i64))
theorem k26_open {w : World} {x : S26} {cs : List Value} (h : k26.K w x cs) : cs = [.int .i64 x.f0, .int .i64 x.f1] := by
 obtain ⟨_, _, rfl, rfl, rfl⟩ := h
 exact rfl
theorem k26_openM {w : World} {base : Nat} {ok : Nat → Prop} {x : S26} {cs : List Value} (h : k26.M w base ok x cs) : cs = [.int .i64 x.f0, .int .i64 x.f1] := by
 obtain ⟨_, _, rfl, rfl, rfl⟩ := h
 exact rfl
theorem k26_mkM (w : World) (base : Nat) (ok : Nat → Prop) (x : S26)  : k26.M w base ok x [.int .i64 x.f0, .int .i64 x.f1] := ⟨[.int .i64 x.f0], [.int .i64 x.f1], rfl, rfl, rfl⟩
def rd_T26 (xs : List S26) (i : Int) : S26 := xs.getD i.toNat z26
theorem at_T26 {w : World} {A : Option Addr} {n : Nat} {xs : List S26} (h : Kd.C k26 w A n xs) (i : Int) (h0 : 0 ≤ i) (h1 : i < n) : ∃ ad , A = some ad ∧ w.cell? (ad.add (i.toNat * 2)) = some (.int .i64 (rd_T26 xs i).f0) ∧ w.cell? ⟨(ad.add (i.toNat * 2)).block, (ad.add (i.toNat * 2)).off + 1, none⟩ = some (.int .i64 (rd_T26 xs i).f1) := by
 obtain ⟨ad, c, e, _, hK, hc0⟩ := Kd.C_get h z26 i h0 h1
 have hc : ∀ j u, c[j]? = some u → w.cell? (ad.add (i.toNat * 2 + j)) = some u := hc0
 obtain rfl := k26_open hK
 exact ⟨ad, e, hc 0 _ rfl, by rw [← add_field _ _ 1 (by omega)]; exact hc 1 _ rfl⟩
def rd_L3 (xs : List (List S26)) (i : Int) : (List S26) := xs.getD i.toNat ([] : List S26)
theorem at_L3 {w : World} {A : Option Addr} {n : Nat} {xs : List (List S26)} (h : Kd.C (Kd.slice 26 k26) w A n xs) (i : Int) (h0 : 0 ≤ i) (h1 : i < n) : ∃ ad A0 c0, A = some ad ∧ w.cell? (ad.add i.toNat) = some (.slice A0 (rd_L3 xs i).length c0) ∧ (rd_L3 xs i).length ≤ c0 ∧ k26.C w A0 (rd_L3 xs i).length (rd_L3 xs i) := by
 obtain ⟨ad, c, e, _, hK, hc0⟩ := Kd.C_get h ([] : List S26) i h0 h1
 have hc : ∀ j u, c[j]? = some u → w.cell? (ad.add (i.toNat * 1 + j)) = some u := hc0
 obtain ⟨A0, c0, rfl, l0, g0⟩ := hK
 exact ⟨ad, A0, c0, e, by have hq := hc 0 _ rfl; rwa [Nat.mul_one, Nat.add_zero] at hq, l0, g0⟩
structure S97 where
 f0 : Int
 f1 : Int
def z97 : S97 := ⟨(0 : Int), (0 : Int)⟩
def k97 : Kd S97 := Kd.iso (Kd.pair (Kd.int .i64) (Kd.int .i64)) (fun x : S97 => (x.f0, x.f1))
theorem k97_open {w : World} {x : S97} {cs : List Value} (h : k97.K w x cs) : cs = [.int .i64 x.f0, .int .i64 x.f1] := by
 obtain ⟨_, _, rfl, rfl, rfl⟩ := h
 exact rfl
theorem k97_mk (w : World) (x : S97)  : k97.K w x [.int .i64 x.f0, .int .i64 x.f1] := ⟨[.int .i64 x.f0], [.int .i64 x.f1], rfl, rfl, rfl⟩
def rd_T97 (xs : List S97) (i : Int) : S97 := xs.getD i.toNat z97
theorem at_T97 {w : World} {A : Option Addr} {n : Nat} {xs : List S97} (h : Kd.C k97 w A n xs) (i : Int) (h0 : 0 ≤ i) (h1 : i < n) : ∃ ad , A = some ad ∧ w.cell? (ad.add (i.toNat * 2)) = some (.int .i64 (rd_T97 xs i).f0) ∧ w.cell? ⟨(ad.add (i.toNat * 2)).block, (ad.add (i.toNat * 2)).off + 1, none⟩ = some (.int .i64 (rd_T97 xs i).f1) := by
 obtain ⟨ad, c, e, _, hK, hc0⟩ := Kd.C_get h z97 i h0 h1
 have hc : ∀ j u, c[j]? = some u → w.cell? (ad.add (i.toNat * 2 + j)) = some u := hc0
 obtain rfl := k97_open hK
 exact ⟨ad, e, hc 0 _ rfl, by rw [← add_field _ _ 1 (by omega)]; exact hc 1 _ rfl⟩
theorem zb {p : Prop} (h : p := by repeat (first | (with_reducible first | exact HB.out | apply below_alloc | apply pw_below_drewN | apply below_drew1 | refine below_set ?_ (Aside0.out (by assumption))) | exact HB.out)) : p := h
theorem zk {p : Prop} (h : p := by (with_reducible repeat (first | refine blk_drewN ?_ _ | refine blk_drew ?_ | refine blk_alloc ?_ _)); exact Aside0.out (by assumption)) : p := h
theorem zc {w w' : World} {p : Addr} {v : Value} (hb : Aside0 (Below w.heap.size w w')) (h : w.cell? p = some v) : w'.cell? p = some v := (hb.out.cell (World.block_lt_of_cell? w _ h)).trans h
theorem zs {p : Prop} (h : p := by simp only [Act.put, List.setIfInBounds_toArray, List.set_cons_zero, List.set_cons_succ, i64_w, i32_w]; rfl) : p := h
theorem zn {p : Prop} (h : p := by (try simp only [List.map_toArray, List.map_cons, List.map_nil]); first | done | rfl | (simp only [List.length_drop, List.length_take]; rfl)) : p := h
def zl (n k : Nat) : Array Bool := ((List.range n).map fun i => k.testBit i).toArray
theorem zp {P : Program} {md : Region.Mode} {ops : Array Oper} {T : Bool × List (List Nat × List Nat)} {Q : Exit → Act → World → Prop} {S : World → Prop} {ds : List Nat} {oi : Oper} {v : Value} {fuel : Nat} {l : Array Bool} {a a' : Act} {w : World}
    (i : Nat) (N : Nat) (n k : Nat) (HT : Aside0 (rtab md ops = T)) (h : wpAnyLast P md ops Q S ds fuel (zl n k) a' w) (hi : ops[i]? = some oi := by rfl) (hN : oi.dst = some N := by rfl)
    (hc : anyT T l.toList (zl n k).toList i = true := by kernel_rfl) (hQ : ∀ c a w, Q (.panic c) (a.put oi.dst v) w → Q (.panic c) a w := by exact fun _ _ _ h => h)
    (hw : Region.wanted oi (yielded ops a.tmps) = true := by rfl) (hy : ∀ w', (execOp a.eval oi).run P w' = .ok (.value v) w' := by intro w'; go_simp; with_reducible rfl)
    (ha : a.put (some N) v = a' := by simp only [Act.put, List.setIfInBounds_toArray, List.set_cons_zero, List.set_cons_succ, i64_w, i32_w]; rfl) : wpAnyLast P md ops Q S ds (fuel + 1) l a w :=
  pure_ (zl n k) hi hN (any_of HT.out hc) hQ (Or.inl ⟨hw, hy⟩) ha h
end Go.Proofs.Ytphpdfcblchpnaa.Q
namespace Go.Proofs.Ytphpdfcblchpnaa.Q
open Go.RowKit Go.Proofs.YtphpdfcblchpnaaW.PrintWords Go.Proofs.YtphpdfcblchpnaaW.PrintLast Go.Proofs.YtphpdfcblchpnaaW.PrintMore
attribute [local go_sem] max2_int min2_int max_two min_two max_three min_three max_four min_four   -- for this text's walks alone
set_option linter.unusedVariables false
set_option linter.unusedSimpArgs false
def spec_l1In.f (a0 : Int) (a1 : Int) (a2 : Int) : Option (Bool) := if a0 ≥ a1 then (some (decide (a0 ≤ a2))) else (some false)
set_option maxHeartbeats 8000000 in
set_option maxRecDepth 100000 in
theorem spec_l1In.calls (a0 : Int) (a1 : Int) (a2 : Int) (r : Bool) (w : World) (h : spec_l1In.f a0 a1 a2 = some r) :
  Calls Try.prog 190 #[.int .i64 a0, .int .i64 a1, .int .i64 a2] w fun e w' => e = .returned (.bool r) ∧ Drawn0 w w' := by
 have H : (if a0 ≥ a1 then (some (decide (a0 ≤ a2))) else (some false)) = some r := h
 clear h
 by_cases c4 : a0 ≥ a1
 ·rw [if_pos c4] at H
  have c4b0 : decide (a1 ≤ a0) = true := decide_eq_true c4
  clear c4
  obtain rfl := Option.some.inj H
  go_enter Try.func190, Try.ntmps190
  go_wp2
  go_ret
  exact ⟨by first | rfl | (simp; done) | (simp [*]; done), by repeat (first | exact Drawn0.refl _ | apply Drawn0.step)⟩
 ·rw [if_neg c4] at H
  have c4b0 : decide (a1 ≤ a0) = false := decide_eq_false c4
  clear c4
  obtain rfl := Option.some.inj H
  go_enter Try.func190, Try.ntmps190
  go_wp2
  go_ret
  exact ⟨by first | rfl | (simp; done) | (simp [*]; done), by repeat (first | exact Drawn0.refl _ | apply Drawn0.step)⟩
def spec_pgIs.f (a0_0 : Int) (a0_1 : Int) : Option (Bool) := (spec_l1In.f a0_0 (-40) 40).bind fun t143 => (if t143 = true then ((spec_l1In.f a0_1 (-40) 40).bind fun t144 => (some t144)) else (some false))
set_option maxHeartbeats 8000000 in
set_option maxRecDepth 100000 in
theorem spec_pgIs.calls (a0_0 : Int) (a0_1 : Int) (r : Bool) (w : World) (h : spec_pgIs.f a0_0 a0_1 = some r) :
  Calls Try.prog 132 #[.agg #[.int .i64 a0_0, .int .i64 a0_1]] w fun e w' => e = .returned (.bool r) ∧ Below w.heap.size w w' := by
 have hu26 := Try.underlying26
 have HB := Aside0.mk (Below.refl w.heap.size w)
 have H : ((spec_l1In.f a0_0 (-40) 40).bind fun t143 => (if t143 = true then ((spec_l1In.f a0_1 (-40) 40).bind fun t144 => (some t144)) else (some false))) = some r := h
 clear h
 replace H := Option.bind_eq_some_iff.mp H
 obtain ⟨t143, A20, H⟩ := H
 replace H : (if t143 = true then ((spec_l1In.f a0_1 (-40) 40).bind fun t144 => (some t144)) else (some false)) = some r := H
 have A2 := Aside0.mk A20
 clear A20
 by_cases c3 : t143 = true
 ·subst c3
  have H1 : ((spec_l1In.f a0_1 (-40) 40).bind fun t144 => (some t144)) = some r := by rw [if_pos rfl] at H; exact H
  clear H
  have H := H1
  clear H1
  replace H := Option.bind_eq_some_iff.mp H
  obtain ⟨t144, A40, H⟩ := H
  replace H : (some t144) = some r := H
  have A4 := Aside0.mk A40
  clear A40
  obtain rfl := Option.some.inj H
  go_enter Try.func132, Try.ntmps132
  go_wp2_with (first | ((with_reducible refine gate_dst (N := 1) rfl ?_); refine box_event ?hg (N := 1) ?hd (cs := #[.int .i64 a0_0, .int .i64 a0_1]) (t := 26) ?hr ?_; (case hd => rfl); (case hg => rfl); (case hr => first | (go_simp; done) | (go_simp; rfl)); intro gb142 hg w5 hbox hb; have n0_ := Aside0.mk (below_step zb hb); have n1_ := Aside0.mk (hbox); have n2_ := Aside0.mk ((by rw [hg]; exact (below_size zb) : w.heap.size ≤ gb142)); have n3_ := Aside0.mk ((by rw [hg]; exact (below_size zb) : w.heap.size ≤ gb142)); clear HB; have HB := n0_; have BK142 := n1_; have GW142 := n2_; have GE142 := n3_; clear n0_ n1_ n2_ n3_; clear hb hbox hg; have hcz6_0 : w5.cell? ⟨gb142, 0, none⟩ = some (.int .i64 a0_0) := (blk_cell BK142.out 0).trans rfl; have hcz6_1 : w5.cell? ⟨gb142, 1, none⟩ = some (.int .i64 a0_1) := (blk_cell BK142.out 1).trans rfl; have hfz6_0 := blk_frozen BK142.out 0; have hfz6_1 := blk_frozen BK142.out 1) | ((with_reducible refine gate_callee (f := 190) rfl ?_); refine goesL_ (some 5) rfl rfl Try.func190 (by kernel_rfl) rfl #[.int .i64 a0_0, .int .i64 (-40), .int .i64 40] rfl zn ?_; (with_reducible refine (spec_l1In.calls a0_0 (-40) 40 true _ A2.out).mono ?_); rintro e w' ⟨rfl, ⟨nd, rfl⟩⟩; refine ⟨_, rfl, ?_⟩) | (go_at_call 190; (with_reducible refine (spec_l1In.calls a0_1 (-40) 40 t144 _ A4.out).mono ?_); rintro e w' ⟨rfl, ⟨nd, rfl⟩⟩))
  go_ret
  exact ⟨by first | rfl | (simp [errW_none, errW_some] <;> rfl) | (simp [*, errW_none, errW_some] <;> rfl), zb⟩
 ·replace c3 := Bool.eq_false_iff.mpr c3
  subst c3
  have H1 : (some false) = some r := by rw [if_neg (show ¬ (false = true) by decide)] at H; exact H
  clear H
  have H := H1
  clear H1
  obtain rfl := Option.some.inj H
  go_enter Try.func132, Try.ntmps132
  go_wp2_with (first | ((with_reducible refine gate_dst (N := 1) rfl ?_); refine box_event ?hg (N := 1) ?hd (cs := #[.int .i64 a0_0, .int .i64 a0_1]) (t := 26) ?hr ?_; (case hd => rfl); (case hg => rfl); (case hr => first | (go_simp; done) | (go_simp; rfl)); intro gb142 hg w7 hbox hb; have n0_ := Aside0.mk (below_step zb hb); have n1_ := Aside0.mk (hbox); have n2_ := Aside0.mk ((by rw [hg]; exact (below_size zb) : w.heap.size ≤ gb142)); have n3_ := Aside0.mk ((by rw [hg]; exact (below_size zb) : w.heap.size ≤ gb142)); clear HB; have HB := n0_; have BK142 := n1_; have GW142 := n2_; have GE142 := n3_; clear n0_ n1_ n2_ n3_; clear hb hbox hg; have hcz8_0 : w7.cell? ⟨gb142, 0, none⟩ = some (.int .i64 a0_0) := (blk_cell BK142.out 0).trans rfl; have hcz8_1 : w7.cell? ⟨gb142, 1, none⟩ = some (.int .i64 a0_1) := (blk_cell BK142.out 1).trans rfl; have hfz8_0 := blk_frozen BK142.out 0; have hfz8_1 := blk_frozen BK142.out 1) | ((with_reducible refine gate_callee (f := 190) rfl ?_); refine goesL_ (some 5) rfl rfl Try.func190 (by kernel_rfl) rfl #[.int .i64 a0_0, .int .i64 (-40), .int .i64 40] rfl zn ?_; (with_reducible refine (spec_l1In.calls a0_0 (-40) 40 false _ A2.out).mono ?_); rintro e w' ⟨rfl, ⟨nd, rfl⟩⟩; refine ⟨_, rfl, ?_⟩))
  go_ret
  exact ⟨by first | rfl | (simp [errW_none, errW_some] <;> rfl) | (simp [*, errW_none, errW_some] <;> rfl), zb⟩
def spec_pgTurn.f (a0_0 : Int) (a0_1 : Int) (a1_0 : Int) (a1_1 : Int) (a2_0 : Int) (a2_1 : Int) : Option (Int) := some (wrap64 ((wrap64 ((wrap64 (a1_0 - a0_0)) * (wrap64 (a2_1 - a0_1)))) - (wrap64 ((wrap64 (a1_1 - a0_1)) * (wrap64 (a2_0 - a0_0))))))
set_option maxHeartbeats 8000000 in
set_option maxRecDepth 100000 in
theorem spec_pgTurn.calls (a0_0 : Int) (a0_1 : Int) (a1_0 : Int) (a1_1 : Int) (a2_0 : Int) (a2_1 : Int) (r : Int) (w : World) (h : spec_pgTurn.f a0_0 a0_1 a1_0 a1_1 a2_0 a2_1 = some r) :
  Calls Try.prog 211 #[.agg #[.int .i64 a0_0, .int .i64 a0_1], .agg #[.int .i64 a1_0, .int .i64 a1_1], .agg #[.int .i64 a2_0, .int .i64 a2_1]] w fun e w' => e = .returned (.int .i64 r) ∧ Below w.heap.size w w' := by
 have hu26 := Try.underlying26
 have HB := Aside0.mk (Below.refl w.heap.size w)
 have H : (some (wrap64 ((wrap64 ((wrap64 (a1_0 - a0_0)) * (wrap64 (a2_1 - a0_1)))) - (wrap64 ((wrap64 (a1_1 - a0_1)) * (wrap64 (a2_0 - a0_0))))))) = some r := h
 clear h
 obtain rfl := Option.some.inj H
 go_enter Try.func211, Try.ntmps211
 go_wp2_with (first | ((with_reducible refine gate_dst (N := 3) rfl ?_); refine box_event ?hg (N := 3) ?hd (cs := #[.int .i64 a0_0, .int .i64 a0_1]) (t := 26) ?hr ?_; (case hd => rfl); (case hg => rfl); (case hr => first | (go_simp; done) | (go_simp; rfl)); intro gb145 hg w4 hbox hb; have n0_ := Aside0.mk (below_step zb hb); have n1_ := Aside0.mk (hbox); have n2_ := Aside0.mk ((by rw [hg]; exact (below_size zb) : w.heap.size ≤ gb145)); have n3_ := Aside0.mk ((by rw [hg]; exact (below_size zb) : w.heap.size ≤ gb145)); clear HB; have HB := n0_; have BK145 := n1_; have GW145 := n2_; have GE145 := n3_; clear n0_ n1_ n2_ n3_; clear hb hbox hg) | ((with_reducible refine gate_dst (N := 4) rfl ?_); refine box_event ?hg (N := 4) ?hd (cs := #[.int .i64 a1_0, .int .i64 a1_1]) (t := 26) ?hr ?_; (case hd => rfl); (case hg => rfl); (case hr => first | (go_simp; done) | (go_simp; rfl)); intro gb146 hg w5 hbox hb; have n0_ := Aside0.mk (blk_below (g := gb145) (o := .cells #[.int .i64 a0_0, .int .i64 a0_1] 26 (0, 0)) zk hb); have n1_ := Aside0.mk (below_step zb hb); have n2_ := Aside0.mk (hbox); have n3_ := Aside0.mk ((by rw [hg]; exact (below_size zb) : w.heap.size ≤ gb146)); have n4_ := Aside0.mk ((by rw [hg]; exact (below_size zb) : w.heap.size ≤ gb146)); have n5_ := Aside0.mk ((by rw [hg]; exact Nat.ne_of_lt (blk_lt (g := gb145) (o := .cells #[.int .i64 a0_0, .int .i64 a0_1] 26 (0, 0)) zk) : gb145 ≠ gb146)); have n6_ := Aside0.mk ((by rw [hg]; exact Nat.ne_of_gt (blk_lt (g := gb145) (o := .cells #[.int .i64 a0_0, .int .i64 a0_1] 26 (0, 0)) zk) : gb146 ≠ gb145)); clear BK145; clear HB; have BK145 := n0_; have HB := n1_; have BK146 := n2_; have GW146 := n3_; have GE146 := n4_; have NB145_146 := n5_; have NB146_145 := n6_; clear n0_ n1_ n2_ n3_ n4_ n5_ n6_; clear hb hbox hg) | ((with_reducible refine gate_dst (N := 5) rfl ?_); refine box_event ?hg (N := 5) ?hd (cs := #[.int .i64 a2_0, .int .i64 a2_1]) (t := 26) ?hr ?_; (case hd => rfl); (case hg => rfl); (case hr => first | (go_simp; done) | (go_simp; rfl)); intro gb147 hg w6 hbox hb; have n0_ := Aside0.mk (blk_below (g := gb145) (o := .cells #[.int .i64 a0_0, .int .i64 a0_1] 26 (0, 0)) zk hb); have n1_ := Aside0.mk (blk_below (g := gb146) (o := .cells #[.int .i64 a1_0, .int .i64 a1_1] 26 (0, 0)) zk hb); have n2_ := Aside0.mk (below_step zb hb); have n3_ := Aside0.mk (hbox); have n4_ := Aside0.mk ((by rw [hg]; exact (below_size zb) : w.heap.size ≤ gb147)); have n5_ := Aside0.mk ((by rw [hg]; exact (below_size zb) : w.heap.size ≤ gb147)); have n6_ := Aside0.mk ((by rw [hg]; exact Nat.ne_of_lt (blk_lt (g := gb145) (o := .cells #[.int .i64 a0_0, .int .i64 a0_1] 26 (0, 0)) zk) : gb145 ≠ gb147)); have n7_ := Aside0.mk ((by rw [hg]; exact Nat.ne_of_gt (blk_lt (g := gb145) (o := .cells #[.int .i64 a0_0, .int .i64 a0_1] 26 (0, 0)) zk) : gb147 ≠ gb145)); have n8_ := Aside0.mk ((by rw [hg]; exact Nat.ne_of_lt (blk_lt (g := gb146) (o := .cells #[.int .i64 a1_0, .int .i64 a1_1] 26 (0, 0)) zk) : gb146 ≠ gb147)); have n9_ := Aside0.mk ((by rw [hg]; exact Nat.ne_of_gt (blk_lt (g := gb146) (o := .cells #[.int .i64 a1_0, .int .i64 a1_1] 26 (0, 0)) zk) : gb147 ≠ gb146)); clear BK145; clear BK146; clear HB; have BK145 := n0_; have BK146 := n1_; have HB := n2_; have BK147 := n3_; have GW147 := n4_; have GE147 := n5_; have NB145_147 := n6_; have NB147_145 := n7_; have NB146_147 := n8_; have NB147_146 := n9_; clear n0_ n1_ n2_ n3_ n4_ n5_ n6_ n7_ n8_ n9_; clear hb hbox hg; have hnb7 := NB146_145.out; have hnc7 := NB145_146.out; have hnb8 := NB146_147.out; have hnc8 := NB147_146.out; have hcz9_0 : w6.cell? ⟨gb146, 0, none⟩ = some (.int .i64 a1_0) := (blk_cell BK146.out 0).trans rfl; have hcz9_1 : w6.cell? ⟨gb146, 1, none⟩ = some (.int .i64 a1_1) := (blk_cell BK146.out 1).trans rfl; have hfz9_0 := blk_frozen BK146.out 0; have hfz9_1 := blk_frozen BK146.out 1; have hnb10 := NB145_147.out; have hnc10 := NB147_145.out; have hcz11_0 : w6.cell? ⟨gb145, 0, none⟩ = some (.int .i64 a0_0) := (blk_cell BK145.out 0).trans rfl; have hcz11_1 : w6.cell? ⟨gb145, 1, none⟩ = some (.int .i64 a0_1) := (blk_cell BK145.out 1).trans rfl; have hfz11_0 := blk_frozen BK145.out 0; have hfz11_1 := blk_frozen BK145.out 1; have hcz12_0 : w6.cell? ⟨gb147, 0, none⟩ = some (.int .i64 a2_0) := (blk_cell BK147.out 0).trans rfl; have hcz12_1 : w6.cell? ⟨gb147, 1, none⟩ = some (.int .i64 a2_1) := (blk_cell BK147.out 1).trans rfl; have hfz12_0 := blk_frozen BK147.out 0; have hfz12_1 := blk_frozen BK147.out 1))
 go_ret
 exact ⟨by first | rfl | (simp [errW_none, errW_some] <;> rfl) | (simp [*, errW_none, errW_some] <;> rfl), zb⟩
def spec_pgOn.f (a0_0 : Int) (a0_1 : Int) (a1_0 : Int) (a1_1 : Int) (a2_0 : Int) (a2_1 : Int) : Option (Bool) := (spec_pgTurn.f a0_0 a0_1 a1_0 a1_1 a2_0 a2_1).bind fun t151 => (if t151 = 0 then (if (wrap64 ((wrap64 (a0_0 - a2_0)) * (wrap64 (a1_0 - a2_0)))) ≤ 0 then (some (decide ((wrap64 ((wrap64 (a0_1 - a2_1)) * (wrap64 (a1_1 - a2_1)))) ≤ 0))) else (some false)) else (some false))
set_option maxHeartbeats 8000000 in
set_option maxRecDepth 100000 in
theorem spec_pgOn.calls (a0_0 : Int) (a0_1 : Int) (a1_0 : Int) (a1_1 : Int) (a2_0 : Int) (a2_1 : Int) (r : Bool) (w : World) (h : spec_pgOn.f a0_0 a0_1 a1_0 a1_1 a2_0 a2_1 = some r) :
  Calls Try.prog 226 #[.agg #[.int .i64 a0_0, .int .i64 a0_1], .agg #[.int .i64 a1_0, .int .i64 a1_1], .agg #[.int .i64 a2_0, .int .i64 a2_1]] w fun e w' => e = .returned (.bool r) ∧ Below w.heap.size w w' := by
 have hu26 := Try.underlying26
 have HB := Aside0.mk (Below.refl w.heap.size w)
 have H : ((spec_pgTurn.f a0_0 a0_1 a1_0 a1_1 a2_0 a2_1).bind fun t151 => (if t151 = 0 then (if (wrap64 ((wrap64 (a0_0 - a2_0)) * (wrap64 (a1_0 - a2_0)))) ≤ 0 then (some (decide ((wrap64 ((wrap64 (a0_1 - a2_1)) * (wrap64 (a1_1 - a2_1)))) ≤ 0))) else (some false)) else (some false))) = some r := h
 clear h
 replace H := Option.bind_eq_some_iff.mp H
 obtain ⟨t151, A40, H⟩ := H
 replace H : (if t151 = 0 then (if (wrap64 ((wrap64 (a0_0 - a2_0)) * (wrap64 (a1_0 - a2_0)))) ≤ 0 then (some (decide ((wrap64 ((wrap64 (a0_1 - a2_1)) * (wrap64 (a1_1 - a2_1)))) ≤ 0))) else (some false)) else (some false)) = some r := H
 have A4 := Aside0.mk A40
 clear A40
 by_cases c5 : t151 = 0
 ·rw [if_pos c5] at H
  have c5b0 : (t151 == 0) = true := beq_iff_eq.mpr c5
  have c5b1 : (t151 != 0) = false := bne_eq_false_iff_eq.mpr c5
  clear c5
  by_cases c6 : (wrap64 ((wrap64 (a0_0 - a2_0)) * (wrap64 (a1_0 - a2_0)))) ≤ 0
  ·rw [if_pos c6] at H
   have c6b0 : decide ((wrap64 ((wrap64 (a0_0 - a2_0)) * (wrap64 (a1_0 - a2_0)))) ≤ 0) = true := decide_eq_true c6
   clear c6
   obtain rfl := Option.some.inj H
   go_enter Try.func226, Try.ntmps226
   go_wp2_with (first | ((with_reducible refine gate_dst (N := 3) rfl ?_); refine box_event ?hg (N := 3) ?hd (cs := #[.int .i64 a0_0, .int .i64 a0_1]) (t := 26) ?hr ?_; (case hd => rfl); (case hg => rfl); (case hr => first | (go_simp; done) | (go_simp; rfl)); intro gb148 hg w7 hbox hb; have n0_ := Aside0.mk (below_step zb hb); have n1_ := Aside0.mk (hbox); have n2_ := Aside0.mk ((by rw [hg]; exact (below_size zb) : w.heap.size ≤ gb148)); have n3_ := Aside0.mk ((by rw [hg]; exact (below_size zb) : w.heap.size ≤ gb148)); clear HB; have HB := n0_; have BK148 := n1_; have GW148 := n2_; have GE148 := n3_; clear n0_ n1_ n2_ n3_; clear hb hbox hg) | ((with_reducible refine gate_dst (N := 4) rfl ?_); refine box_event ?hg (N := 4) ?hd (cs := #[.int .i64 a1_0, .int .i64 a1_1]) (t := 26) ?hr ?_; (case hd => rfl); (case hg => rfl); (case hr => first | (go_simp; done) | (go_simp; rfl)); intro gb149 hg w8 hbox hb; have n0_ := Aside0.mk (blk_below (g := gb148) (o := .cells #[.int .i64 a0_0, .int .i64 a0_1] 26 (0, 0)) zk hb); have n1_ := Aside0.mk (below_step zb hb); have n2_ := Aside0.mk (hbox); have n3_ := Aside0.mk ((by rw [hg]; exact (below_size zb) : w.heap.size ≤ gb149)); have n4_ := Aside0.mk ((by rw [hg]; exact (below_size zb) : w.heap.size ≤ gb149)); have n5_ := Aside0.mk ((by rw [hg]; exact Nat.ne_of_lt (blk_lt (g := gb148) (o := .cells #[.int .i64 a0_0, .int .i64 a0_1] 26 (0, 0)) zk) : gb148 ≠ gb149)); have n6_ := Aside0.mk ((by rw [hg]; exact Nat.ne_of_gt (blk_lt (g := gb148) (o := .cells #[.int .i64 a0_0, .int .i64 a0_1] 26 (0, 0)) zk) : gb149 ≠ gb148)); clear BK148; clear HB; have BK148 := n0_; have HB := n1_; have BK149 := n2_; have GW149 := n3_; have GE149 := n4_; have NB148_149 := n5_; have NB149_148 := n6_; clear n0_ n1_ n2_ n3_ n4_ n5_ n6_; clear hb hbox hg) | ((with_reducible refine gate_dst (N := 5) rfl ?_); refine box_event ?hg (N := 5) ?hd (cs := #[.int .i64 a2_0, .int .i64 a2_1]) (t := 26) ?hr ?_; (case hd => rfl); (case hg => rfl); (case hr => first | (go_simp; done) | (go_simp; rfl)); intro gb150 hg w9 hbox hb; have n0_ := Aside0.mk (blk_below (g := gb148) (o := .cells #[.int .i64 a0_0, .int .i64 a0_1] 26 (0, 0)) zk hb); have n1_ := Aside0.mk (blk_below (g := gb149) (o := .cells #[.int .i64 a1_0, .int .i64 a1_1] 26 (0, 0)) zk hb); have n2_ := Aside0.mk (below_step zb hb); have n3_ := Aside0.mk (hbox); have n4_ := Aside0.mk ((by rw [hg]; exact (below_size zb) : w.heap.size ≤ gb150)); have n5_ := Aside0.mk ((by rw [hg]; exact (below_size zb) : w.heap.size ≤ gb150)); have n6_ := Aside0.mk ((by rw [hg]; exact Nat.ne_of_lt (blk_lt (g := gb148) (o := .cells #[.int .i64 a0_0, .int .i64 a0_1] 26 (0, 0)) zk) : gb148 ≠ gb150)); have n7_ := Aside0.mk ((by rw [hg]; exact Nat.ne_of_gt (blk_lt (g := gb148) (o := .cells #[.int .i64 a0_0, .int .i64 a0_1] 26 (0, 0)) zk) : gb150 ≠ gb148)); have n8_ := Aside0.mk ((by rw [hg]; exact Nat.ne_of_lt (blk_lt (g := gb149) (o := .cells #[.int .i64 a1_0, .int .i64 a1_1] 26 (0, 0)) zk) : gb149 ≠ gb150)); have n9_ := Aside0.mk ((by rw [hg]; exact Nat.ne_of_gt (blk_lt (g := gb149) (o := .cells #[.int .i64 a1_0, .int .i64 a1_1] 26 (0, 0)) zk) : gb150 ≠ gb149)); clear BK148; clear BK149; clear HB; have BK148 := n0_; have BK149 := n1_; have HB := n2_; have BK150 := n3_; have GW150 := n4_; have GE150 := n5_; have NB148_150 := n6_; have NB150_148 := n7_; have NB149_150 := n8_; have NB150_149 := n9_; clear n0_ n1_ n2_ n3_ n4_ n5_ n6_ n7_ n8_ n9_; clear hb hbox hg; have hnb10 := NB148_149.out; have hnc10 := NB149_148.out; have hnb11 := NB148_150.out; have hnc11 := NB150_148.out; have hcz12_0 : w9.cell? ⟨gb148, 0, none⟩ = some (.int .i64 a0_0) := (blk_cell BK148.out 0).trans rfl; have hcz12_1 : w9.cell? ⟨gb148, 1, none⟩ = some (.int .i64 a0_1) := (blk_cell BK148.out 1).trans rfl; have hfz12_0 := blk_frozen BK148.out 0; have hfz12_1 := blk_frozen BK148.out 1; have hnb13 := NB149_150.out; have hnc13 := NB150_149.out; have hcz14_0 : w9.cell? ⟨gb149, 0, none⟩ = some (.int .i64 a1_0) := (blk_cell BK149.out 0).trans rfl; have hcz14_1 : w9.cell? ⟨gb149, 1, none⟩ = some (.int .i64 a1_1) := (blk_cell BK149.out 1).trans rfl; have hfz14_0 := blk_frozen BK149.out 0; have hfz14_1 := blk_frozen BK149.out 1; have hcz15_0 : w9.cell? ⟨gb150, 0, none⟩ = some (.int .i64 a2_0) := (blk_cell BK150.out 0).trans rfl; have hcz15_1 : w9.cell? ⟨gb150, 1, none⟩ = some (.int .i64 a2_1) := (blk_cell BK150.out 1).trans rfl; have hfz15_0 := blk_frozen BK150.out 0; have hfz15_1 := blk_frozen BK150.out 1) | ((with_reducible refine gate_callee (f := 211) rfl ?_); refine goesL_ (some 10) rfl rfl Try.func211 (by kernel_rfl) rfl #[.agg #[.int .i64 a0_0, .int .i64 a0_1], .agg #[.int .i64 a1_0, .int .i64 a1_1], .agg #[.int .i64 a2_0, .int .i64 a2_1]] rfl zn ?_; (with_reducible refine (spec_pgTurn.calls a0_0 a0_1 a1_0 a1_1 a2_0 a2_1 t151 _ A4.out).mono ?_); rintro e w16 ⟨rfl, hb⟩; refine ⟨_, rfl, ?_⟩; have n0_ := Aside0.mk (blk_below (g := gb148) (o := .cells #[.int .i64 a0_0, .int .i64 a0_1] 26 (0, 0)) zk hb); have n1_ := Aside0.mk (blk_below (g := gb149) (o := .cells #[.int .i64 a1_0, .int .i64 a1_1] 26 (0, 0)) zk hb); have n2_ := Aside0.mk (blk_below (g := gb150) (o := .cells #[.int .i64 a2_0, .int .i64 a2_1] 26 (0, 0)) zk hb); have n3_ := Aside0.mk (below_step zb hb); clear BK148; clear BK149; clear BK150; clear HB; have BK148 := n0_; have BK149 := n1_; have BK150 := n2_; have HB := n3_; clear n0_ n1_ n2_ n3_; (try clear hb); (try clear hb2); (try clear hk); (try clear hi); have hcz17_0 : w16.cell? ⟨gb148, 0, none⟩ = some (.int .i64 a0_0) := (blk_cell BK148.out 0).trans rfl; have hcz17_1 : w16.cell? ⟨gb148, 1, none⟩ = some (.int .i64 a0_1) := (blk_cell BK148.out 1).trans rfl; have hfz17_0 := blk_frozen BK148.out 0; have hfz17_1 := blk_frozen BK148.out 1; have hcz18_0 : w16.cell? ⟨gb150, 0, none⟩ = some (.int .i64 a2_0) := (blk_cell BK150.out 0).trans rfl; have hcz18_1 : w16.cell? ⟨gb150, 1, none⟩ = some (.int .i64 a2_1) := (blk_cell BK150.out 1).trans rfl; have hfz18_0 := blk_frozen BK150.out 0; have hfz18_1 := blk_frozen BK150.out 1; have hcz19_0 : w16.cell? ⟨gb149, 0, none⟩ = some (.int .i64 a1_0) := (blk_cell BK149.out 0).trans rfl; have hcz19_1 : w16.cell? ⟨gb149, 1, none⟩ = some (.int .i64 a1_1) := (blk_cell BK149.out 1).trans rfl; have hfz19_0 := blk_frozen BK149.out 0; have hfz19_1 := blk_frozen BK149.out 1))
   go_ret
   exact ⟨by first | rfl | (simp [errW_none, errW_some] <;> rfl) | (simp [*, errW_none, errW_some] <;> rfl), zb⟩
  ·rw [if_neg c6] at H
   have c6b0 : decide ((wrap64 ((wrap64 (a0_0 - a2_0)) * (wrap64 (a1_0 - a2_0)))) ≤ 0) = false := decide_eq_false c6
   clear c6
   obtain rfl := Option.some.inj H
   go_enter Try.func226, Try.ntmps226
   go_wp2_with (first | ((with_reducible refine gate_dst (N := 3) rfl ?_); refine box_event ?hg (N := 3) ?hd (cs := #[.int .i64 a0_0, .int .i64 a0_1]) (t := 26) ?hr ?_; (case hd => rfl); (case hg => rfl); (case hr => first | (go_simp; done) | (go_simp; rfl)); intro gb148 hg w20 hbox hb; have n0_ := Aside0.mk (below_step zb hb); have n1_ := Aside0.mk (hbox); have n2_ := Aside0.mk ((by rw [hg]; exact (below_size zb) : w.heap.size ≤ gb148)); have n3_ := Aside0.mk ((by rw [hg]; exact (below_size zb) : w.heap.size ≤ gb148)); clear HB; have HB := n0_; have BK148 := n1_; have GW148 := n2_; have GE148 := n3_; clear n0_ n1_ n2_ n3_; clear hb hbox hg) | ((with_reducible refine gate_dst (N := 4) rfl ?_); refine box_event ?hg (N := 4) ?hd (cs := #[.int .i64 a1_0, .int .i64 a1_1]) (t := 26) ?hr ?_; (case hd => rfl); (case hg => rfl); (case hr => first | (go_simp; done) | (go_simp; rfl)); intro gb149 hg w21 hbox hb; have n0_ := Aside0.mk (blk_below (g := gb148) (o := .cells #[.int .i64 a0_0, .int .i64 a0_1] 26 (0, 0)) zk hb); have n1_ := Aside0.mk (below_step zb hb); have n2_ := Aside0.mk (hbox); have n3_ := Aside0.mk ((by rw [hg]; exact (below_size zb) : w.heap.size ≤ gb149)); have n4_ := Aside0.mk ((by rw [hg]; exact (below_size zb) : w.heap.size ≤ gb149)); have n5_ := Aside0.mk ((by rw [hg]; exact Nat.ne_of_lt (blk_lt (g := gb148) (o := .cells #[.int .i64 a0_0, .int .i64 a0_1] 26 (0, 0)) zk) : gb148 ≠ gb149)); have n6_ := Aside0.mk ((by rw [hg]; exact Nat.ne_of_gt (blk_lt (g := gb148) (o := .cells #[.int .i64 a0_0, .int .i64 a0_1] 26 (0, 0)) zk) : gb149 ≠ gb148)); clear BK148; clear HB; have BK148 := n0_; have HB := n1_; have BK149 := n2_; have GW149 := n3_; have GE149 := n4_; have NB148_149 := n5_; have NB149_148 := n6_; clear n0_ n1_ n2_ n3_ n4_ n5_ n6_; clear hb hbox hg) | ((with_reducible refine gate_dst (N := 5) rfl ?_); refine box_event ?hg (N := 5) ?hd (cs := #[.int .i64 a2_0, .int .i64 a2_1]) (t := 26) ?hr ?_; (case hd => rfl); (case hg => rfl); (case hr => first | (go_simp; done) | (go_simp; rfl)); intro gb150 hg w22 hbox hb; have n0_ := Aside0.mk (blk_below (g := gb148) (o := .cells #[.int .i64 a0_0, .int .i64 a0_1] 26 (0, 0)) zk hb); have n1_ := Aside0.mk (blk_below (g := gb149) (o := .cells #[.int .i64 a1_0, .int .i64 a1_1] 26 (0, 0)) zk hb); have n2_ := Aside0.mk (below_step zb hb); have n3_ := Aside0.mk (hbox); have n4_ := Aside0.mk ((by rw [hg]; exact (below_size zb) : w.heap.size ≤ gb150)); have n5_ := Aside0.mk ((by rw [hg]; exact (below_size zb) : w.heap.size ≤ gb150)); have n6_ := Aside0.mk ((by rw [hg]; exact Nat.ne_of_lt (blk_lt (g := gb148) (o := .cells #[.int .i64 a0_0, .int .i64 a0_1] 26 (0, 0)) zk) : gb148 ≠ gb150)); have n7_ := Aside0.mk ((by rw [hg]; exact Nat.ne_of_gt (blk_lt (g := gb148) (o := .cells #[.int .i64 a0_0, .int .i64 a0_1] 26 (0, 0)) zk) : gb150 ≠ gb148)); have n8_ := Aside0.mk ((by rw [hg]; exact Nat.ne_of_lt (blk_lt (g := gb149) (o := .cells #[.int .i64 a1_0, .int .i64 a1_1] 26 (0, 0)) zk) : gb149 ≠ gb150)); have n9_ := Aside0.mk ((by rw [hg]; exact Nat.ne_of_gt (blk_lt (g := gb149) (o := .cells #[.int .i64 a1_0, .int .i64 a1_1] 26 (0, 0)) zk) : gb150 ≠ gb149)); clear BK148; clear BK149; clear HB; have BK148 := n0_; have BK149 := n1_; have HB := n2_; have BK150 := n3_; have GW150 := n4_; have GE150 := n5_; have NB148_150 := n6_; have NB150_148 := n7_; have NB149_150 := n8_; have NB150_149 := n9_; clear n0_ n1_ n2_ n3_ n4_ n5_ n6_ n7_ n8_ n9_; clear hb hbox hg; have hnb23 := NB148_149.out; have hnc23 := NB149_148.out; have hnb24 := NB148_150.out; have hnc24 := NB150_148.out; have hcz25_0 : w22.cell? ⟨gb148, 0, none⟩ = some (.int .i64 a0_0) := (blk_cell BK148.out 0).trans rfl; have hcz25_1 : w22.cell? ⟨gb148, 1, none⟩ = some (.int .i64 a0_1) := (blk_cell BK148.out 1).trans rfl; have hfz25_0 := blk_frozen BK148.out 0; have hfz25_1 := blk_frozen BK148.out 1; have hnb26 := NB149_150.out; have hnc26 := NB150_149.out; have hcz27_0 : w22.cell? ⟨gb149, 0, none⟩ = some (.int .i64 a1_0) := (blk_cell BK149.out 0).trans rfl; have hcz27_1 : w22.cell? ⟨gb149, 1, none⟩ = some (.int .i64 a1_1) := (blk_cell BK149.out 1).trans rfl; have hfz27_0 := blk_frozen BK149.out 0; have hfz27_1 := blk_frozen BK149.out 1; have hcz28_0 : w22.cell? ⟨gb150, 0, none⟩ = some (.int .i64 a2_0) := (blk_cell BK150.out 0).trans rfl; have hcz28_1 : w22.cell? ⟨gb150, 1, none⟩ = some (.int .i64 a2_1) := (blk_cell BK150.out 1).trans rfl; have hfz28_0 := blk_frozen BK150.out 0; have hfz28_1 := blk_frozen BK150.out 1) | ((with_reducible refine gate_callee (f := 211) rfl ?_); refine goesL_ (some 10) rfl rfl Try.func211 (by kernel_rfl) rfl #[.agg #[.int .i64 a0_0, .int .i64 a0_1], .agg #[.int .i64 a1_0, .int .i64 a1_1], .agg #[.int .i64 a2_0, .int .i64 a2_1]] rfl zn ?_; (with_reducible refine (spec_pgTurn.calls a0_0 a0_1 a1_0 a1_1 a2_0 a2_1 t151 _ A4.out).mono ?_); rintro e w29 ⟨rfl, hb⟩; refine ⟨_, rfl, ?_⟩; have n0_ := Aside0.mk (blk_below (g := gb148) (o := .cells #[.int .i64 a0_0, .int .i64 a0_1] 26 (0, 0)) zk hb); have n1_ := Aside0.mk (blk_below (g := gb149) (o := .cells #[.int .i64 a1_0, .int .i64 a1_1] 26 (0, 0)) zk hb); have n2_ := Aside0.mk (blk_below (g := gb150) (o := .cells #[.int .i64 a2_0, .int .i64 a2_1] 26 (0, 0)) zk hb); have n3_ := Aside0.mk (below_step zb hb); clear BK148; clear BK149; clear BK150; clear HB; have BK148 := n0_; have BK149 := n1_; have BK150 := n2_; have HB := n3_; clear n0_ n1_ n2_ n3_; (try clear hb); (try clear hb2); (try clear hk); (try clear hi); have hcz30_0 : w29.cell? ⟨gb148, 0, none⟩ = some (.int .i64 a0_0) := (blk_cell BK148.out 0).trans rfl; have hcz30_1 : w29.cell? ⟨gb148, 1, none⟩ = some (.int .i64 a0_1) := (blk_cell BK148.out 1).trans rfl; have hfz30_0 := blk_frozen BK148.out 0; have hfz30_1 := blk_frozen BK148.out 1; have hcz31_0 : w29.cell? ⟨gb150, 0, none⟩ = some (.int .i64 a2_0) := (blk_cell BK150.out 0).trans rfl; have hcz31_1 : w29.cell? ⟨gb150, 1, none⟩ = some (.int .i64 a2_1) := (blk_cell BK150.out 1).trans rfl; have hfz31_0 := blk_frozen BK150.out 0; have hfz31_1 := blk_frozen BK150.out 1; have hcz32_0 : w29.cell? ⟨gb149, 0, none⟩ = some (.int .i64 a1_0) := (blk_cell BK149.out 0).trans rfl; have hcz32_1 : w29.cell? ⟨gb149, 1, none⟩ = some (.int .i64 a1_1) := (blk_cell BK149.out 1).trans rfl; have hfz32_0 := blk_frozen BK149.out 0; have hfz32_1 := blk_frozen BK149.out 1))
   go_ret
   exact ⟨by first | rfl | (simp [errW_none, errW_some] <;> rfl) | (simp [*, errW_none, errW_some] <;> rfl), zb⟩
 ·rw [if_neg c5] at H
  have c5b0 : (t151 == 0) = false := beq_eq_false_iff_ne.mpr c5
  have c5b1 : (t151 != 0) = true := bne_iff_ne.mpr c5
  obtain rfl := Option.some.inj H
  go_enter Try.func226, Try.ntmps226
  go_wp2_with (first | ((with_reducible refine gate_dst (N := 3) rfl ?_); refine box_event ?hg (N := 3) ?hd (cs := #[.int .i64 a0_0, .int .i64 a0_1]) (t := 26) ?hr ?_; (case hd => rfl); (case hg => rfl); (case hr => first | (go_simp; done) | (go_simp; rfl)); intro gb148 hg w33 hbox hb; have n0_ := Aside0.mk (below_step zb hb); have n1_ := Aside0.mk (hbox); have n2_ := Aside0.mk ((by rw [hg]; exact (below_size zb) : w.heap.size ≤ gb148)); have n3_ := Aside0.mk ((by rw [hg]; exact (below_size zb) : w.heap.size ≤ gb148)); clear HB; have HB := n0_; have BK148 := n1_; have GW148 := n2_; have GE148 := n3_; clear n0_ n1_ n2_ n3_; clear hb hbox hg) | ((with_reducible refine gate_dst (N := 4) rfl ?_); refine box_event ?hg (N := 4) ?hd (cs := #[.int .i64 a1_0, .int .i64 a1_1]) (t := 26) ?hr ?_; (case hd => rfl); (case hg => rfl); (case hr => first | (go_simp; done) | (go_simp; rfl)); intro gb149 hg w34 hbox hb; have n0_ := Aside0.mk (blk_below (g := gb148) (o := .cells #[.int .i64 a0_0, .int .i64 a0_1] 26 (0, 0)) zk hb); have n1_ := Aside0.mk (below_step zb hb); have n2_ := Aside0.mk (hbox); have n3_ := Aside0.mk ((by rw [hg]; exact (below_size zb) : w.heap.size ≤ gb149)); have n4_ := Aside0.mk ((by rw [hg]; exact (below_size zb) : w.heap.size ≤ gb149)); have n5_ := Aside0.mk ((by rw [hg]; exact Nat.ne_of_lt (blk_lt (g := gb148) (o := .cells #[.int .i64 a0_0, .int .i64 a0_1] 26 (0, 0)) zk) : gb148 ≠ gb149)); have n6_ := Aside0.mk ((by rw [hg]; exact Nat.ne_of_gt (blk_lt (g := gb148) (o := .cells #[.int .i64 a0_0, .int .i64 a0_1] 26 (0, 0)) zk) : gb149 ≠ gb148)); clear BK148; clear HB; have BK148 := n0_; have HB := n1_; have BK149 := n2_; have GW149 := n3_; have GE149 := n4_; have NB148_149 := n5_; have NB149_148 := n6_; clear n0_ n1_ n2_ n3_ n4_ n5_ n6_; clear hb hbox hg) | ((with_reducible refine gate_dst (N := 5) rfl ?_); refine box_event ?hg (N := 5) ?hd (cs := #[.int .i64 a2_0, .int .i64 a2_1]) (t := 26) ?hr ?_; (case hd => rfl); (case hg => rfl); (case hr => first | (go_simp; done) | (go_simp; rfl)); intro gb150 hg w35 hbox hb; have n0_ := Aside0.mk (blk_below (g := gb148) (o := .cells #[.int .i64 a0_0, .int .i64 a0_1] 26 (0, 0)) zk hb); have n1_ := Aside0.mk (blk_below (g := gb149) (o := .cells #[.int .i64 a1_0, .int .i64 a1_1] 26 (0, 0)) zk hb); have n2_ := Aside0.mk (below_step zb hb); have n3_ := Aside0.mk (hbox); have n4_ := Aside0.mk ((by rw [hg]; exact (below_size zb) : w.heap.size ≤ gb150)); have n5_ := Aside0.mk ((by rw [hg]; exact (below_size zb) : w.heap.size ≤ gb150)); have n6_ := Aside0.mk ((by rw [hg]; exact Nat.ne_of_lt (blk_lt (g := gb148) (o := .cells #[.int .i64 a0_0, .int .i64 a0_1] 26 (0, 0)) zk) : gb148 ≠ gb150)); have n7_ := Aside0.mk ((by rw [hg]; exact Nat.ne_of_gt (blk_lt (g := gb148) (o := .cells #[.int .i64 a0_0, .int .i64 a0_1] 26 (0, 0)) zk) : gb150 ≠ gb148)); have n8_ := Aside0.mk ((by rw [hg]; exact Nat.ne_of_lt (blk_lt (g := gb149) (o := .cells #[.int .i64 a1_0, .int .i64 a1_1] 26 (0, 0)) zk) : gb149 ≠ gb150)); have n9_ := Aside0.mk ((by rw [hg]; exact Nat.ne_of_gt (blk_lt (g := gb149) (o := .cells #[.int .i64 a1_0, .int .i64 a1_1] 26 (0, 0)) zk) : gb150 ≠ gb149)); clear BK148; clear BK149; clear HB; have BK148 := n0_; have BK149 := n1_; have HB := n2_; have BK150 := n3_; have GW150 := n4_; have GE150 := n5_; have NB148_150 := n6_; have NB150_148 := n7_; have NB149_150 := n8_; have NB150_149 := n9_; clear n0_ n1_ n2_ n3_ n4_ n5_ n6_ n7_ n8_ n9_; clear hb hbox hg; have hnb36 := NB148_149.out; have hnc36 := NB149_148.out; have hnb37 := NB148_150.out; have hnc37 := NB150_148.out; have hcz38_0 : w35.cell? ⟨gb148, 0, none⟩ = some (.int .i64 a0_0) := (blk_cell BK148.out 0).trans rfl; have hcz38_1 : w35.cell? ⟨gb148, 1, none⟩ = some (.int .i64 a0_1) := (blk_cell BK148.out 1).trans rfl; have hfz38_0 := blk_frozen BK148.out 0; have hfz38_1 := blk_frozen BK148.out 1; have hnb39 := NB149_150.out; have hnc39 := NB150_149.out; have hcz40_0 : w35.cell? ⟨gb149, 0, none⟩ = some (.int .i64 a1_0) := (blk_cell BK149.out 0).trans rfl; have hcz40_1 : w35.cell? ⟨gb149, 1, none⟩ = some (.int .i64 a1_1) := (blk_cell BK149.out 1).trans rfl; have hfz40_0 := blk_frozen BK149.out 0; have hfz40_1 := blk_frozen BK149.out 1; have hcz41_0 : w35.cell? ⟨gb150, 0, none⟩ = some (.int .i64 a2_0) := (blk_cell BK150.out 0).trans rfl; have hcz41_1 : w35.cell? ⟨gb150, 1, none⟩ = some (.int .i64 a2_1) := (blk_cell BK150.out 1).trans rfl; have hfz41_0 := blk_frozen BK150.out 0; have hfz41_1 := blk_frozen BK150.out 1) | ((with_reducible refine gate_callee (f := 211) rfl ?_); refine goesL_ (some 10) rfl rfl Try.func211 (by kernel_rfl) rfl #[.agg #[.int .i64 a0_0, .int .i64 a0_1], .agg #[.int .i64 a1_0, .int .i64 a1_1], .agg #[.int .i64 a2_0, .int .i64 a2_1]] rfl zn ?_; (with_reducible refine (spec_pgTurn.calls a0_0 a0_1 a1_0 a1_1 a2_0 a2_1 t151 _ A4.out).mono ?_); rintro e w42 ⟨rfl, hb⟩; refine ⟨_, rfl, ?_⟩; have n0_ := Aside0.mk (blk_below (g := gb148) (o := .cells #[.int .i64 a0_0, .int .i64 a0_1] 26 (0, 0)) zk hb); have n1_ := Aside0.mk (blk_below (g := gb149) (o := .cells #[.int .i64 a1_0, .int .i64 a1_1] 26 (0, 0)) zk hb); have n2_ := Aside0.mk (blk_below (g := gb150) (o := .cells #[.int .i64 a2_0, .int .i64 a2_1] 26 (0, 0)) zk hb); have n3_ := Aside0.mk (below_step zb hb); clear BK148; clear BK149; clear BK150; clear HB; have BK148 := n0_; have BK149 := n1_; have BK150 := n2_; have HB := n3_; clear n0_ n1_ n2_ n3_; (try clear hb); (try clear hb2); (try clear hk); (try clear hi)))
  go_ret
  exact ⟨by first | rfl | (simp [errW_none, errW_some] <;> rfl) | (simp [*, errW_none, errW_some] <;> rfl), zb⟩
end Go.Proofs.Ytphpdfcblchpnaa.Q
namespace Go.Proofs.Ytphpdfcblchpnaa.Q
open Go.RowKit Go.Proofs.YtphpdfcblchpnaaW.PrintWords Go.Proofs.YtphpdfcblchpnaaW.PrintLast Go.Proofs.YtphpdfcblchpnaaW.PrintMore
attribute [local go_sem] max2_int min2_int max_two min_two max_three min_three max_four min_four   -- for this text's walks alone
set_option linter.unusedVariables false
set_option linter.unusedSimpArgs false
theorem eqA26 (d : Nat) (w : World) (x0 y0 : Int) (x1 y1 : Int) :
  (Op.equalIn (d + 2) 26 (.agg #[.int .i64 x0, .int .i64 x1]) (.agg #[.int .i64 y0, .int .i64 y1])).run Try.prog w = .ok (x0 == y0 && (x1 == y1)) w := by
 refine eqA_of Try.underlying26 (by kernel_rfl) ?_
 refine eqf_cons (by rfl) (by go_simp; rfl) (by go_simp; rfl) (by go_simp) ?_
 exact eqf_last (by rfl) (by go_simp; rfl) (by go_simp; rfl) (by go_simp)
end Go.Proofs.Ytphpdfcblchpnaa.Q
namespace Go.Proofs.Ytphpdfcblchpnaa.Q
open Go.RowKit Go.Proofs.YtphpdfcblchpnaaW.PrintWords Go.Proofs.YtphpdfcblchpnaaW.PrintLast Go.Proofs.YtphpdfcblchpnaaW.PrintMore
attribute [local go_sem] max2_int min2_int max_two min_two max_three min_three max_four min_four   -- for this text's walks alone
set_option linter.unusedVariables false
set_option linter.unusedSimpArgs false
attribute [local go_sem high] eqA26
def impl_within.f (a0 : Int) (a1 : Int) (a2 : Int) : Option (Bool) := if a0 ≥ a1 then (some (decide (a0 ≤ a2))) else (some false)
set_option maxHeartbeats 8000000 in
set_option maxRecDepth 100000 in
theorem impl_within.calls (a0 : Int) (a1 : Int) (a2 : Int) (r : Bool) (w : World) (h : impl_within.f a0 a1 a2 = some r) :
  Calls Try.prog 135 #[.int .i64 a0, .int .i64 a1, .int .i64 a2] w fun e w' => e = .returned (.bool r) ∧ Drawn0 w w' := by
 have H : (if a0 ≥ a1 then (some (decide (a0 ≤ a2))) else (some false)) = some r := h
 clear h
 by_cases c4 : a0 ≥ a1
 ·rw [if_pos c4] at H
  have c4b0 : decide (a1 ≤ a0) = true := decide_eq_true c4
  clear c4
  obtain rfl := Option.some.inj H
  go_enter Try.func135, Try.ntmps135
  go_wp2
  go_ret
  exact ⟨by first | rfl | (simp; done) | (simp [*]; done), by repeat (first | exact Drawn0.refl _ | apply Drawn0.step)⟩
 ·rw [if_neg c4] at H
  have c4b0 : decide (a1 ≤ a0) = false := decide_eq_false c4
  clear c4
  obtain rfl := Option.some.inj H
  go_enter Try.func135, Try.ntmps135
  go_wp2
  go_ret
  exact ⟨by first | rfl | (simp; done) | (simp [*]; done), by repeat (first | exact Drawn0.refl _ | apply Drawn0.step)⟩
def impl_IsPeg.f (a0_0 : Int) (a0_1 : Int) : Option (Bool) := (impl_within.f a0_0 (-40) 40).bind fun t333 => (if t333 = true then ((impl_within.f a0_1 (-40) 40).bind fun t334 => (some t334)) else (some false))
set_option maxHeartbeats 8000000 in
set_option maxRecDepth 100000 in
theorem impl_IsPeg.calls (a0_0 : Int) (a0_1 : Int) (r : Bool) (w : World) (h : impl_IsPeg.f a0_0 a0_1 = some r) :
  Calls Try.prog 129 #[.agg #[.int .i64 a0_0, .int .i64 a0_1]] w fun e w' => e = .returned (.bool r) ∧ Below w.heap.size w w' := by
 have hu26 := Try.underlying26
 have HB := Aside0.mk (Below.refl w.heap.size w)
 have H : ((impl_within.f a0_0 (-40) 40).bind fun t333 => (if t333 = true then ((impl_within.f a0_1 (-40) 40).bind fun t334 => (some t334)) else (some false))) = some r := h
 clear h
 replace H := Option.bind_eq_some_iff.mp H
 obtain ⟨t333, A20, H⟩ := H
 replace H : (if t333 = true then ((impl_within.f a0_1 (-40) 40).bind fun t334 => (some t334)) else (some false)) = some r := H
 have A2 := Aside0.mk A20
 clear A20
 by_cases c3 : t333 = true
 ·subst c3
  have H1 : ((impl_within.f a0_1 (-40) 40).bind fun t334 => (some t334)) = some r := by rw [if_pos rfl] at H; exact H
  clear H
  have H := H1
  clear H1
  replace H := Option.bind_eq_some_iff.mp H
  obtain ⟨t334, A40, H⟩ := H
  replace H : (some t334) = some r := H
  have A4 := Aside0.mk A40
  clear A40
  obtain rfl := Option.some.inj H
  go_enter Try.func129, Try.ntmps129
  go_wp2_with (first | ((with_reducible refine gate_dst (N := 1) rfl ?_); refine box_event ?hg (N := 1) ?hd (cs := #[.int .i64 a0_0, .int .i64 a0_1]) (t := 26) ?hr ?_; (case hd => rfl); (case hg => rfl); (case hr => first | (go_simp; done) | (go_simp; rfl)); intro gb332 hg w5 hbox hb; have n0_ := Aside0.mk (below_step zb hb); have n1_ := Aside0.mk (hbox); have n2_ := Aside0.mk ((by rw [hg]; exact (below_size zb) : w.heap.size ≤ gb332)); have n3_ := Aside0.mk ((by rw [hg]; exact (below_size zb) : w.heap.size ≤ gb332)); clear HB; have HB := n0_; have BK332 := n1_; have GW332 := n2_; have GE332 := n3_; clear n0_ n1_ n2_ n3_; clear hb hbox hg; have hcz6_0 : w5.cell? ⟨gb332, 0, none⟩ = some (.int .i64 a0_0) := (blk_cell BK332.out 0).trans rfl; have hcz6_1 : w5.cell? ⟨gb332, 1, none⟩ = some (.int .i64 a0_1) := (blk_cell BK332.out 1).trans rfl; have hfz6_0 := blk_frozen BK332.out 0; have hfz6_1 := blk_frozen BK332.out 1) | ((with_reducible refine gate_callee (f := 135) rfl ?_); refine goesL_ (some 5) rfl rfl Try.func135 (by kernel_rfl) rfl #[.int .i64 a0_0, .int .i64 (-40), .int .i64 40] rfl zn ?_; (with_reducible refine (impl_within.calls a0_0 (-40) 40 true _ A2.out).mono ?_); rintro e w' ⟨rfl, ⟨nd, rfl⟩⟩; refine ⟨_, rfl, ?_⟩) | (go_at_call 135; (with_reducible refine (impl_within.calls a0_1 (-40) 40 t334 _ A4.out).mono ?_); rintro e w' ⟨rfl, ⟨nd, rfl⟩⟩))
  go_ret
  exact ⟨by first | rfl | (simp [errW_none, errW_some] <;> rfl) | (simp [*, errW_none, errW_some] <;> rfl), zb⟩
 ·replace c3 := Bool.eq_false_iff.mpr c3
  subst c3
  have H1 : (some false) = some r := by rw [if_neg (show ¬ (false = true) by decide)] at H; exact H
  clear H
  have H := H1
  clear H1
  obtain rfl := Option.some.inj H
  go_enter Try.func129, Try.ntmps129
  go_wp2_with (first | ((with_reducible refine gate_dst (N := 1) rfl ?_); refine box_event ?hg (N := 1) ?hd (cs := #[.int .i64 a0_0, .int .i64 a0_1]) (t := 26) ?hr ?_; (case hd => rfl); (case hg => rfl); (case hr => first | (go_simp; done) | (go_simp; rfl)); intro gb332 hg w7 hbox hb; have n0_ := Aside0.mk (below_step zb hb); have n1_ := Aside0.mk (hbox); have n2_ := Aside0.mk ((by rw [hg]; exact (below_size zb) : w.heap.size ≤ gb332)); have n3_ := Aside0.mk ((by rw [hg]; exact (below_size zb) : w.heap.size ≤ gb332)); clear HB; have HB := n0_; have BK332 := n1_; have GW332 := n2_; have GE332 := n3_; clear n0_ n1_ n2_ n3_; clear hb hbox hg; have hcz8_0 : w7.cell? ⟨gb332, 0, none⟩ = some (.int .i64 a0_0) := (blk_cell BK332.out 0).trans rfl; have hcz8_1 : w7.cell? ⟨gb332, 1, none⟩ = some (.int .i64 a0_1) := (blk_cell BK332.out 1).trans rfl; have hfz8_0 := blk_frozen BK332.out 0; have hfz8_1 := blk_frozen BK332.out 1) | ((with_reducible refine gate_callee (f := 135) rfl ?_); refine goesL_ (some 5) rfl rfl Try.func135 (by kernel_rfl) rfl #[.int .i64 a0_0, .int .i64 (-40), .int .i64 40] rfl zn ?_; (with_reducible refine (impl_within.calls a0_0 (-40) 40 false _ A2.out).mono ?_); rintro e w' ⟨rfl, ⟨nd, rfl⟩⟩; refine ⟨_, rfl, ?_⟩))
  go_ret
  exact ⟨by first | rfl | (simp [errW_none, errW_some] <;> rfl) | (simp [*, errW_none, errW_some] <;> rfl), zb⟩
def impl_arePegs_1.f (a0_0 : Int) (a0_1 : Int) : Option (Bool) := (impl_IsPeg.f a0_0 a0_1).bind fun t336 => (some (!t336))
set_option maxHeartbeats 8000000 in
set_option maxRecDepth 100000 in
theorem impl_arePegs_1.calls (a0_0 : Int) (a0_1 : Int) (r : Bool) (w : World) (h : impl_arePegs_1.f a0_0 a0_1 = some r) :
  Calls Try.prog 239 #[.agg #[.int .i64 a0_0, .int .i64 a0_1]] w fun e w' => e = .returned (.bool r) ∧ Below w.heap.size w w' := by
 have hu26 := Try.underlying26
 have HB := Aside0.mk (Below.refl w.heap.size w)
 have H : ((impl_IsPeg.f a0_0 a0_1).bind fun t336 => (some (!t336))) = some r := h
 clear h
 replace H := Option.bind_eq_some_iff.mp H
 obtain ⟨t336, A20, H⟩ := H
 replace H : (some (!t336)) = some r := H
 have A2 := Aside0.mk A20
 clear A20
 obtain rfl := Option.some.inj H
 go_enter Try.func239, Try.ntmps239
 go_wp2_with (first | ((with_reducible refine gate_dst (N := 1) rfl ?_); refine box_event ?hg (N := 1) ?hd (cs := #[.int .i64 a0_0, .int .i64 a0_1]) (t := 26) ?hr ?_; (case hd => rfl); (case hg => rfl); (case hr => first | (go_simp; done) | (go_simp; rfl)); intro gb335 hg w3 hbox hb; have n0_ := Aside0.mk (below_step zb hb); have n1_ := Aside0.mk (hbox); have n2_ := Aside0.mk ((by rw [hg]; exact (below_size zb) : w.heap.size ≤ gb335)); have n3_ := Aside0.mk ((by rw [hg]; exact (below_size zb) : w.heap.size ≤ gb335)); clear HB; have HB := n0_; have BK335 := n1_; have GW335 := n2_; have GE335 := n3_; clear n0_ n1_ n2_ n3_; clear hb hbox hg; have hcz4_0 : w3.cell? ⟨gb335, 0, none⟩ = some (.int .i64 a0_0) := (blk_cell BK335.out 0).trans rfl; have hcz4_1 : w3.cell? ⟨gb335, 1, none⟩ = some (.int .i64 a0_1) := (blk_cell BK335.out 1).trans rfl; have hfz4_0 := blk_frozen BK335.out 0; have hfz4_1 := blk_frozen BK335.out 1) | ((with_reducible refine gate_callee (f := 129) rfl ?_); refine goesL_ (some 4) rfl rfl Try.func129 (by kernel_rfl) rfl #[.agg #[.int .i64 a0_0, .int .i64 a0_1]] rfl zn ?_; (with_reducible refine (impl_IsPeg.calls a0_0 a0_1 t336 _ A2.out).mono ?_); rintro e w5 ⟨rfl, hb⟩; refine ⟨_, rfl, ?_⟩; have n0_ := Aside0.mk (blk_below (g := gb335) (o := .cells #[.int .i64 a0_0, .int .i64 a0_1] 26 (0, 0)) zk hb); have n1_ := Aside0.mk (below_step zb hb); clear BK335; clear HB; have BK335 := n0_; have HB := n1_; clear n0_ n1_; (try clear hb); (try clear hb2); (try clear hk); (try clear hi)))
 go_ret
 exact ⟨by first | rfl | (simp [errW_none, errW_some] <;> rfl) | (simp [*, errW_none, errW_some] <;> rfl), zb⟩
def impl_Peg_271.l0 : Nat → List (S26) → Int → Int → Option (Int)
 | 0, _, _, _ => none
 | k + 1, x0, x7, x8 => if x8 < x7 then (if 0 ≤ x8 then (if x8 < (x0.length : Int) then ((impl_arePegs_1.f ((rd_T26 x0 x8).f0) ((rd_T26 x0 x8).f1)).bind fun t338 => (if t338 = true then (some x8) else (impl_Peg_271.l0 k x0 x7 (wrap64 (x8 + 1))))) else (none)) else (none)) else (some (-1))
def impl_Peg_271.f (k : Nat) (l0 : List (S26)) : Option (Int) := impl_Peg_271.l0 k l0 (l0.length : Int) 0
set_option maxHeartbeats 8000000 in
set_option maxRecDepth 100000 in
theorem impl_Peg_271.calls (k : Nat) (A0 : Option Addr) (c0 : Nat) (l0 : List (S26)) (r : Int) (w : World) (hr0 : Kd.C k26 w A0 l0.length l0) (hc0 : l0.length ≤ c0) (h : impl_Peg_271.f k l0 = some r) :
  Calls Try.prog 271 #[.slice A0 l0.length c0, .func (.func 239) #[] #[]] w fun e w' => e = .returned (.int .i64 r) ∧ Below w.heap.size w w' := by
 have hu26 := Try.underlying26
 have HR0 := Aside0.mk hr0
 have HC0 := Aside0.mk hc0
 clear hr0 hc0
 have HB := Aside0.mk (Below.refl w.heap.size w)
 have H : (impl_Peg_271.l0 k l0 (l0.length : Int) 0) = some r := h
 clear h
 have H' := Aside0.mk H
 clear H
 go_enter Try.func271, Try.ntmps271
 go_wp2
 go_loopg [8] k (fun kq v8 w' => ∃ (x8_1 : Int), v8 = .int .i64 x8_1 ∧ Aside0 (impl_Peg_271.l0 kq l0 (l0.length : Int) x8_1 = some r) ∧ Aside0 (kq ≤ k) ∧ Aside0 (Below w.heap.size w w'))
 case atStart => exact ⟨(0), (by first | rfl | (simp; done) | (simp [*]; done)), H', ⟨Nat.le_refl _⟩, ⟨zb⟩⟩
 case round =>
  clear H'
  obtain ⟨x8_1, rfl, HA, HK1, HB⟩ := hrel
  cases gk with
  | zero => exact absurd HA.out (by simp [impl_Peg_271.l0])
  | succ k1 =>
   have H := HA.out
   clear HA
   simp only [impl_Peg_271.l0] at H
   by_cases c2 : x8_1 < (l0.length : Int)
   ·rw [if_pos c2] at H
    have c2b0 : decide (x8_1 < (l0.length : Int)) = true := decide_eq_true c2
    clear c2
    by_cases c3 : 0 ≤ x8_1
    ·rw [if_pos c3] at H
     have c3b0 : decide (0 ≤ x8_1) = true := decide_eq_true c3
     clear c3
     by_cases c4 : x8_1 < (l0.length : Int)
     ·rw [if_pos c4] at H
      have c4b0 : decide (x8_1 < (l0.length : Int)) = true := decide_eq_true c4
      clear c4
      replace H := Option.bind_eq_some_iff.mp H
      obtain ⟨t338, A50, H⟩ := H
      replace H : (if t338 = true then (some x8_1) else (impl_Peg_271.l0 k1 l0 (l0.length : Int) (wrap64 (x8_1 + 1)))) = some r := H
      have A5 := Aside0.mk A50
      clear A50
      by_cases c6 : t338 = true
      ·subst c6
       have H1 : (some x8_1) = some r := by rw [if_pos rfl] at H; exact H
       clear H
       have H := H1
       clear H1
       obtain rfl := Option.some.inj H
       have p337 : 0 ≤ (x8_1 : Int) := of_decide_eq_true (by first | (with_reducible assumption) | assumption)
       have q337 : x8_1 < (l0.length : Int) := of_decide_eq_true (by first | (with_reducible assumption) | assumption)
       obtain ⟨ad337, e337, hx337_0, hx337_1⟩ := at_T26 HR0.out x8_1 p337 q337
       cases e337
       replace hx337_0 := zc HB hx337_0
       replace hx337_1 := zc HB hx337_1
       replace p337 := eq_true p337
       replace q337 := eq_true q337
       go_wp2_with (first | ((with_reducible refine YtphpdfcblchpnaaH.gate_calleeV rfl ?_); refine YtphpdfcblchpnaaH.goesV0_ (some 16) rfl rfl Try.func239 (by kernel_rfl) rfl #[.agg #[.int .i64 ((rd_T26 l0 x8_1).f0), .int .i64 ((rd_T26 l0 x8_1).f1)]] rfl rfl zn ?_; (with_reducible refine (impl_arePegs_1.calls ((rd_T26 l0 x8_1).f0) ((rd_T26 l0 x8_1).f1) true _ A5.out).mono ?_); rintro e w7 ⟨rfl, hb⟩; refine ⟨_, rfl, ?_⟩; have n0_ := Aside0.mk (below_step zb hb); clear HB; have HB := n0_; clear n0_; (try clear hb); (try clear hb2); (try clear hk); (try clear hi)))
       go_ret
       exact ⟨by first | rfl | (simp [errW_none, errW_some] <;> rfl) | (simp [*, errW_none, errW_some] <;> rfl), zb⟩
      ·replace c6 := Bool.eq_false_iff.mpr c6
       subst c6
       have H1 : (impl_Peg_271.l0 k1 l0 (l0.length : Int) (wrap64 (x8_1 + 1))) = some r := by rw [if_neg (show ¬ (false = true) by decide)] at H; exact H
       clear H
       have H := H1
       clear H1
       have H' := Aside0.mk H
       clear H
       have p337 : 0 ≤ (x8_1 : Int) := of_decide_eq_true (by first | (with_reducible assumption) | assumption)
       have q337 : x8_1 < (l0.length : Int) := of_decide_eq_true (by first | (with_reducible assumption) | assumption)
       obtain ⟨ad337, e337, hx337_0, hx337_1⟩ := at_T26 HR0.out x8_1 p337 q337
       cases e337
       replace hx337_0 := zc HB hx337_0
       replace hx337_1 := zc HB hx337_1
       replace p337 := eq_true p337
       replace q337 := eq_true q337
       go_wp2_with (first | ((with_reducible refine YtphpdfcblchpnaaH.gate_calleeV rfl ?_); refine YtphpdfcblchpnaaH.goesV0_ (some 16) rfl rfl Try.func239 (by kernel_rfl) rfl #[.agg #[.int .i64 ((rd_T26 l0 x8_1).f0), .int .i64 ((rd_T26 l0 x8_1).f1)]] rfl rfl zn ?_; (with_reducible refine (impl_arePegs_1.calls ((rd_T26 l0 x8_1).f0) ((rd_T26 l0 x8_1).f1) false _ A5.out).mono ?_); rintro e w8 ⟨rfl, hb⟩; refine ⟨_, rfl, ?_⟩; have n0_ := Aside0.mk (below_step zb hb); clear HB; have HB := n0_; clear n0_; (try clear hb); (try clear hb2); (try clear hk); (try clear hi)))
       go_roundg k1
       case measure => have := HK1.out; omega
       case rel => exact ⟨(wrap64 (x8_1 + 1)), (by first | rfl | (simp; done) | (simp [*]; done)), H', ⟨by have := HK1.out; omega⟩, ⟨zb⟩⟩
     ·rw [if_neg c4] at H
      exact absurd H (by simp)
    ·rw [if_neg c3] at H
     exact absurd H (by simp)
   ·rw [if_neg c2] at H
    have c2b0 : decide (x8_1 < (l0.length : Int)) = false := decide_eq_false c2
    clear c2
    obtain rfl := Option.some.inj H
    go_wp2
    go_ret
    exact ⟨by first | rfl | (simp [errW_none, errW_some] <;> rfl) | (simp [*, errW_none, errW_some] <;> rfl), zb⟩
def impl_Peg_238.f (k : Nat) (l0 : List (S26)) : Option (Bool) := (impl_Peg_271.f k l0).bind fun t339 => (some (decide (t339 ≥ 0)))
set_option maxHeartbeats 8000000 in
set_option maxRecDepth 100000 in
theorem impl_Peg_238.calls (k : Nat) (A0 : Option Addr) (c0 : Nat) (l0 : List (S26)) (r : Bool) (w : World) (hr0 : Kd.C k26 w A0 l0.length l0) (hc0 : l0.length ≤ c0) (h : impl_Peg_238.f k l0 = some r) :
  Calls Try.prog 238 #[.slice A0 l0.length c0, .func (.func 239) #[] #[]] w fun e w' => e = .returned (.bool r) ∧ Below w.heap.size w w' := by
 have HR0 := Aside0.mk hr0
 have HC0 := Aside0.mk hc0
 clear hr0 hc0
 have HB := Aside0.mk (Below.refl w.heap.size w)
 have H : ((impl_Peg_271.f k l0).bind fun t339 => (some (decide (t339 ≥ 0)))) = some r := h
 clear h
 replace H := Option.bind_eq_some_iff.mp H
 obtain ⟨t339, A20, H⟩ := H
 replace H : (some (decide (t339 ≥ 0))) = some r := H
 have A2 := Aside0.mk A20
 clear A20
 obtain rfl := Option.some.inj H
 go_enter Try.func238, Try.ntmps238
 go_wp2_with (first | ((with_reducible refine gate_callee (f := 271) rfl ?_); refine goesL_ (some 7) rfl rfl Try.func271 (by kernel_rfl) rfl #[.slice A0 l0.length c0, .func (.func 239) #[] #[]] rfl zn ?_; (with_reducible refine (impl_Peg_271.calls k _ _ l0 t339 _ ?side1 ?side2 A2.out).mono ?_); (case side1 => repeat (first | exact HR0.out | (with_reducible refine Kd.C_alloc ?_ _) | (with_reducible refine Kd.C_drewN ?_ _) | (with_reducible refine Kd.C_drew ?_))); (case side2 => exact HC0.out); rintro e w3 ⟨rfl, hb⟩; refine ⟨_, rfl, ?_⟩; have n0_ := Aside0.mk (below_step zb hb); clear HB; have HB := n0_; clear n0_; (try clear hb); (try clear hb2); (try clear hk); (try clear hi)))
 go_ret
 exact ⟨by first | rfl | (simp [errW_none, errW_some] <;> rfl) | (simp [*, errW_none, errW_some] <;> rfl), zb⟩
def impl_arePegs.f (k : Nat) (l0 : List (S26)) : Option (Bool) := (impl_Peg_238.f k l0).bind fun t340 => (some (!t340))
set_option maxHeartbeats 8000000 in
set_option maxRecDepth 100000 in
theorem impl_arePegs.calls (k : Nat) (A0 : Option Addr) (c0 : Nat) (l0 : List (S26)) (r : Bool) (w : World) (hr0 : Kd.C k26 w A0 l0.length l0) (hc0 : l0.length ≤ c0) (h : impl_arePegs.f k l0 = some r) :
  Calls Try.prog 171 #[.slice A0 l0.length c0] w fun e w' => e = .returned (.bool r) ∧ Below w.heap.size w w' := by
 have HR0 := Aside0.mk hr0
 have HC0 := Aside0.mk hc0
 clear hr0 hc0
 have HB := Aside0.mk (Below.refl w.heap.size w)
 have H : ((impl_Peg_238.f k l0).bind fun t340 => (some (!t340))) = some r := h
 clear h
 replace H := Option.bind_eq_some_iff.mp H
 obtain ⟨t340, A20, H⟩ := H
 replace H : (some (!t340)) = some r := H
 have A2 := Aside0.mk A20
 clear A20
 obtain rfl := Option.some.inj H
 go_enter Try.func171, Try.ntmps171
 go_wp2_with (first | ((with_reducible refine gate_callee (f := 238) rfl ?_); refine goesL_ (some 4) rfl rfl Try.func238 (by kernel_rfl) rfl #[.slice A0 l0.length c0, .func (.func 239) #[] #[]] rfl zn ?_; (with_reducible refine (impl_Peg_238.calls k _ _ l0 t340 _ ?side1 ?side2 A2.out).mono ?_); (case side1 => repeat (first | exact HR0.out | (with_reducible refine Kd.C_alloc ?_ _) | (with_reducible refine Kd.C_drewN ?_ _) | (with_reducible refine Kd.C_drew ?_))); (case side2 => exact HC0.out); rintro e w3 ⟨rfl, hb⟩; refine ⟨_, rfl, ?_⟩; have n0_ := Aside0.mk (below_step zb hb); clear HB; have HB := n0_; clear n0_; (try clear hb); (try clear hb2); (try clear hk); (try clear hi)))
 go_ret
 exact ⟨by first | rfl | (simp [errW_none, errW_some] <;> rfl) | (simp [*, errW_none, errW_some] <;> rfl), zb⟩
def impl_Peg_240.l0 : Nat → List (S26) → Int → Int → Int → Int → Option (Int)
 | 0, _, _, _, _, _ => none
 | k + 1, x0, x7, x8, x342000, x342001 => if x8 < x7 then (if 0 ≤ x8 then (if x8 < (x0.length : Int) then (if (x342000 == ((rd_T26 x0 x8).f0) && (x342001 == ((rd_T26 x0 x8).f1))) = true then (some x8) else (impl_Peg_240.l0 k x0 x7 (wrap64 (x8 + 1)) x342000 x342001)) else (none)) else (none)) else (some (-1))
def impl_Peg_240.f (k : Nat) (l0 : List (S26)) (a1_0 : Int) (a1_1 : Int) : Option (Int) := impl_Peg_240.l0 k l0 (l0.length : Int) 0 a1_0 a1_1
set_option maxHeartbeats 8000000 in
set_option maxRecDepth 100000 in
theorem impl_Peg_240.calls (k : Nat) (A0 : Option Addr) (c0 : Nat) (l0 : List (S26)) (a1_0 : Int) (a1_1 : Int) (r : Int) (w : World) (hr0 : Kd.C k26 w A0 l0.length l0) (hc0 : l0.length ≤ c0) (h : impl_Peg_240.f k l0 a1_0 a1_1 = some r) :
  Calls Try.prog 240 #[.slice A0 l0.length c0, .agg #[.int .i64 a1_0, .int .i64 a1_1]] w fun e w' => e = .returned (.int .i64 r) ∧ Below w.heap.size w w' := by
 have hu26 := Try.underlying26
 have HR0 := Aside0.mk hr0
 have HC0 := Aside0.mk hc0
 clear hr0 hc0
 have HB := Aside0.mk (Below.refl w.heap.size w)
 have H : (impl_Peg_240.l0 k l0 (l0.length : Int) 0 a1_0 a1_1) = some r := h
 clear h
 have H' := Aside0.mk H
 clear H
 go_enter Try.func240, Try.ntmps240
 go_wp2_with (first | ((with_reducible refine gate_dst (N := 3) rfl ?_); refine box_event ?hg (N := 3) ?hd (cs := #[.int .i64 a1_0, .int .i64 a1_1]) (t := 26) ?hr ?_; (case hd => rfl); (case hg => rfl); (case hr => first | (go_simp; done) | (go_simp; rfl)); intro gb341 hg w3 hbox hb; have n0_ := Aside0.mk (below_step zb hb); have n1_ := Aside0.mk (hbox); have n2_ := Aside0.mk ((by rw [hg]; exact (below_size zb) : w.heap.size ≤ gb341)); have n3_ := Aside0.mk ((by rw [hg]; exact (below_size zb) : w.heap.size ≤ gb341)); clear HB; have HB := n0_; have BK341 := n1_; have GW341 := n2_; have GE341 := n3_; clear n0_ n1_ n2_ n3_; clear hb hbox hg))
 repeat (go_quiet (first | ((with_reducible refine gate_dst (N := 3) rfl ?_); refine box_event ?hg (N := 3) ?hd (cs := #[.int .i64 a1_0, .int .i64 a1_1]) (t := 26) ?hr ?_; (case hd => rfl); (case hg => rfl); (case hr => first | (go_simp; done) | (go_simp; rfl)); intro gb341 hg w3 hbox hb; have n0_ := Aside0.mk (below_step zb hb); have n1_ := Aside0.mk (hbox); have n2_ := Aside0.mk ((by rw [hg]; exact (below_size zb) : w.heap.size ≤ gb341)); have n3_ := Aside0.mk ((by rw [hg]; exact (below_size zb) : w.heap.size ≤ gb341)); clear HB; have HB := n0_; have BK341 := n1_; have GW341 := n2_; have GE341 := n3_; clear n0_ n1_ n2_ n3_; clear hb hbox hg)); try go_wp2_with (first | ((with_reducible refine gate_dst (N := 3) rfl ?_); refine box_event ?hg (N := 3) ?hd (cs := #[.int .i64 a1_0, .int .i64 a1_1]) (t := 26) ?hr ?_; (case hd => rfl); (case hg => rfl); (case hr => first | (go_simp; done) | (go_simp; rfl)); intro gb341 hg w3 hbox hb; have n0_ := Aside0.mk (below_step zb hb); have n1_ := Aside0.mk (hbox); have n2_ := Aside0.mk ((by rw [hg]; exact (below_size zb) : w.heap.size ≤ gb341)); have n3_ := Aside0.mk ((by rw [hg]; exact (below_size zb) : w.heap.size ≤ gb341)); clear HB; have HB := n0_; have BK341 := n1_; have GW341 := n2_; have GE341 := n3_; clear n0_ n1_ n2_ n3_; clear hb hbox hg)))
 go_loopg [8] k (fun kq v8 w' => ∃ (x8_1 : Int), v8 = .int .i64 x8_1 ∧ Aside0 (impl_Peg_240.l0 kq l0 (l0.length : Int) x8_1 a1_0 a1_1 = some r) ∧ Aside0 (kq ≤ k) ∧ Aside0 (w'.heap[gb341]? = some (.cells #[.int .i64 a1_0, .int .i64 a1_1] 26 (0, 0))) ∧ Aside0 (Below w.heap.size w w'))
 case atStart => exact ⟨(0), (by first | rfl | (simp; done) | (simp [*]; done)), H', ⟨Nat.le_refl _⟩, ⟨zk⟩, ⟨zb⟩⟩
 case round =>
  clear H'
  try clear c2
  try clear p2
  obtain ⟨x8_1, rfl, HA, HK1, BK341, HB⟩ := hrel
  cases gk with
  | zero => exact absurd HA.out (by simp [impl_Peg_240.l0])
  | succ k1 =>
   have H := HA.out
   clear HA
   simp only [impl_Peg_240.l0] at H
   by_cases c4 : x8_1 < (l0.length : Int)
   ·rw [if_pos c4] at H
    have c4b0 : decide (x8_1 < (l0.length : Int)) = true := decide_eq_true c4
    clear c4
    by_cases c5 : 0 ≤ x8_1
    ·rw [if_pos c5] at H
     have c5b0 : decide (0 ≤ x8_1) = true := decide_eq_true c5
     clear c5
     by_cases c6 : x8_1 < (l0.length : Int)
     ·rw [if_pos c6] at H
      have c6b0 : decide (x8_1 < (l0.length : Int)) = true := decide_eq_true c6
      clear c6
      by_cases c7 : (a1_0 == ((rd_T26 l0 x8_1).f0) && (a1_1 == ((rd_T26 l0 x8_1).f1))) = true
      ·rw [if_pos c7] at H
       have c7b0 : (a1_0 == ((rd_T26 l0 x8_1).f0) && (a1_1 == ((rd_T26 l0 x8_1).f1))) = true := c7
       (try (have c7b1 : decide (a1_0 = ((rd_T26 l0 x8_1).f0) && (a1_1 == ((rd_T26 l0 x8_1).f1))) = true := by simpa using c7))
       (try (have c7b2 : (a1_0 == ((rd_T26 l0 x8_1).f0) && (a1_1 == ((rd_T26 l0 x8_1).f1))) = true := by simpa using c7))
       clear c7
       obtain rfl := Option.some.inj H
       have hcz8_0 : wr.cell? ⟨gb341, 0, none⟩ = some (.int .i64 a1_0) := (blk_cell BK341.out 0).trans rfl
       have hcz8_1 : wr.cell? ⟨gb341, 1, none⟩ = some (.int .i64 a1_1) := (blk_cell BK341.out 1).trans rfl
       have hfz8_0 := blk_frozen BK341.out 0
       have hfz8_1 := blk_frozen BK341.out 1
       have p342 : 0 ≤ (x8_1 : Int) := of_decide_eq_true (by first | (with_reducible assumption) | assumption)
       have q342 : x8_1 < (l0.length : Int) := of_decide_eq_true (by first | (with_reducible assumption) | assumption)
       obtain ⟨ad342, e342, hx342_0, hx342_1⟩ := at_T26 HR0.out x8_1 p342 q342
       cases e342
       replace hx342_0 := zc HB hx342_0
       replace hx342_1 := zc HB hx342_1
       replace p342 := eq_true p342
       replace q342 := eq_true q342
       go_wp2
       repeat (go_quiet (fail); try go_wp2)
       go_ret
       exact ⟨by first | rfl | (simp [errW_none, errW_some] <;> rfl) | (simp [*, errW_none, errW_some] <;> rfl), zb⟩
      ·rw [if_neg c7] at H
       have c7b0 : (a1_0 == ((rd_T26 l0 x8_1).f0) && (a1_1 == ((rd_T26 l0 x8_1).f1))) = false := by simpa using c7
       (try (have c7b1 : decide (a1_0 = ((rd_T26 l0 x8_1).f0) && (a1_1 == ((rd_T26 l0 x8_1).f1))) = false := by simpa using c7))
       (try (have c7b2 : (a1_0 == ((rd_T26 l0 x8_1).f0) && (a1_1 == ((rd_T26 l0 x8_1).f1))) = false := by simpa using c7))
       (try (have c7b3 : ¬ (a1_0 = ((rd_T26 l0 x8_1).f0) && (a1_1 == ((rd_T26 l0 x8_1).f1))) := by simpa using c7))
       clear c7
       have H' := Aside0.mk H
       clear H
       have hcz9_0 : wr.cell? ⟨gb341, 0, none⟩ = some (.int .i64 a1_0) := (blk_cell BK341.out 0).trans rfl
       have hcz9_1 : wr.cell? ⟨gb341, 1, none⟩ = some (.int .i64 a1_1) := (blk_cell BK341.out 1).trans rfl
       have hfz9_0 := blk_frozen BK341.out 0
       have hfz9_1 := blk_frozen BK341.out 1
       have p342 : 0 ≤ (x8_1 : Int) := of_decide_eq_true (by first | (with_reducible assumption) | assumption)
       have q342 : x8_1 < (l0.length : Int) := of_decide_eq_true (by first | (with_reducible assumption) | assumption)
       obtain ⟨ad342, e342, hx342_0, hx342_1⟩ := at_T26 HR0.out x8_1 p342 q342
       cases e342
       replace hx342_0 := zc HB hx342_0
       replace hx342_1 := zc HB hx342_1
       replace p342 := eq_true p342
       replace q342 := eq_true q342
       go_wp2
       repeat (go_quiet (fail); try go_wp2)
       go_roundg k1
       case measure => have := HK1.out; omega
       case rel => exact ⟨(wrap64 (x8_1 + 1)), (by first | rfl | (simp; done) | (simp [*]; done)), H', ⟨by have := HK1.out; omega⟩, ⟨zk⟩, ⟨zb⟩⟩
     ·rw [if_neg c6] at H
      exact absurd H (by simp)
    ·rw [if_neg c5] at H
     exact absurd H (by simp)
   ·rw [if_neg c4] at H
    have c4b0 : decide (x8_1 < (l0.length : Int)) = false := decide_eq_false c4
    clear c4
    obtain rfl := Option.some.inj H
    go_wp2
    repeat (go_quiet (fail); try go_wp2)
    go_ret
    exact ⟨by first | rfl | (simp [errW_none, errW_some] <;> rfl) | (simp [*, errW_none, errW_some] <;> rfl), zb⟩
def impl_Peg_172.f (k : Nat) (l0 : List (S26)) (a1_0 : Int) (a1_1 : Int) : Option (Bool) := (impl_Peg_240.f k l0 a1_0 a1_1).bind fun t344 => (some (decide (t344 ≥ 0)))
set_option maxHeartbeats 8000000 in
set_option maxRecDepth 100000 in
theorem impl_Peg_172.calls (k : Nat) (A0 : Option Addr) (c0 : Nat) (l0 : List (S26)) (a1_0 : Int) (a1_1 : Int) (r : Bool) (w : World) (hr0 : Kd.C k26 w A0 l0.length l0) (hc0 : l0.length ≤ c0) (h : impl_Peg_172.f k l0 a1_0 a1_1 = some r) :
  Calls Try.prog 172 #[.slice A0 l0.length c0, .agg #[.int .i64 a1_0, .int .i64 a1_1]] w fun e w' => e = .returned (.bool r) ∧ Below w.heap.size w w' := by
 have hu26 := Try.underlying26
 have HR0 := Aside0.mk hr0
 have HC0 := Aside0.mk hc0
 clear hr0 hc0
 have HB := Aside0.mk (Below.refl w.heap.size w)
 have H : ((impl_Peg_240.f k l0 a1_0 a1_1).bind fun t344 => (some (decide (t344 ≥ 0)))) = some r := h
 clear h
 replace H := Option.bind_eq_some_iff.mp H
 obtain ⟨t344, A30, H⟩ := H
 replace H : (some (decide (t344 ≥ 0))) = some r := H
 have A3 := Aside0.mk A30
 clear A30
 obtain rfl := Option.some.inj H
 go_enter Try.func172, Try.ntmps172
 go_wp2_with (first | ((with_reducible refine gate_dst (N := 3) rfl ?_); refine box_event ?hg (N := 3) ?hd (cs := #[.int .i64 a1_0, .int .i64 a1_1]) (t := 26) ?hr ?_; (case hd => rfl); (case hg => rfl); (case hr => first | (go_simp; done) | (go_simp; rfl)); intro gb343 hg w4 hbox hb; have n0_ := Aside0.mk (below_step zb hb); have n1_ := Aside0.mk (hbox); have n2_ := Aside0.mk ((by rw [hg]; exact (below_size zb) : w.heap.size ≤ gb343)); have n3_ := Aside0.mk ((by rw [hg]; exact (below_size zb) : w.heap.size ≤ gb343)); clear HB; have HB := n0_; have BK343 := n1_; have GW343 := n2_; have GE343 := n3_; clear n0_ n1_ n2_ n3_; clear hb hbox hg; have hcz5_0 : w4.cell? ⟨gb343, 0, none⟩ = some (.int .i64 a1_0) := (blk_cell BK343.out 0).trans rfl; have hcz5_1 : w4.cell? ⟨gb343, 1, none⟩ = some (.int .i64 a1_1) := (blk_cell BK343.out 1).trans rfl; have hfz5_0 := blk_frozen BK343.out 0; have hfz5_1 := blk_frozen BK343.out 1) | ((with_reducible refine gate_callee (f := 240) rfl ?_); refine goesL_ (some 7) rfl rfl Try.func240 (by kernel_rfl) rfl #[.slice A0 l0.length c0, .agg #[.int .i64 a1_0, .int .i64 a1_1]] rfl zn ?_; (with_reducible refine (impl_Peg_240.calls k _ _ l0 a1_0 a1_1 t344 _ ?side1 ?side2 A3.out).mono ?_); (case side1 => repeat (first | exact (Kd.C_below HR0.out HB.out) | (with_reducible refine Kd.C_alloc ?_ _) | (with_reducible refine Kd.C_drewN ?_ _) | (with_reducible refine Kd.C_drew ?_))); (case side2 => exact HC0.out); rintro e w6 ⟨rfl, hb⟩; refine ⟨_, rfl, ?_⟩; have n0_ := Aside0.mk (blk_below (g := gb343) (o := .cells #[.int .i64 a1_0, .int .i64 a1_1] 26 (0, 0)) zk hb); have n1_ := Aside0.mk (below_step zb hb); clear BK343; clear HB; have BK343 := n0_; have HB := n1_; clear n0_ n1_; (try clear hb); (try clear hb2); (try clear hk); (try clear hi)))
 go_ret
 exact ⟨by first | rfl | (simp [errW_none, errW_some] <;> rfl) | (simp [*, errW_none, errW_some] <;> rfl), zb⟩
def impl_Peg_less.f (a0_0 : Int) (a0_1 : Int) (a1_0 : Int) (a1_1 : Int) : Option (Int × Int) := some (wrap64 (a0_0 - a1_0), wrap64 (a0_1 - a1_1))
set_option maxHeartbeats 8000000 in
set_option maxRecDepth 100000 in
theorem impl_Peg_less.calls (a0_0 : Int) (a0_1 : Int) (a1_0 : Int) (a1_1 : Int) (r1 : Int) (r2 : Int) (w : World) (h : impl_Peg_less.f a0_0 a0_1 a1_0 a1_1 = some (r1, r2)) :
  Calls Try.prog 202 #[.agg #[.int .i64 a0_0, .int .i64 a0_1], .agg #[.int .i64 a1_0, .int .i64 a1_1]] w fun e w' => e = .returned (.agg #[.int .i64 r1, .int .i64 r2]) ∧ Below w.heap.size w w' := by
 have hu26 := Try.underlying26
 have HB := Aside0.mk (Below.refl w.heap.size w)
 have H : (some (wrap64 (a0_0 - a1_0), wrap64 (a0_1 - a1_1))) = some (r1, r2) := h
 clear h
 simp only [Option.some.injEq, Prod.mk.injEq] at H
 obtain ⟨rfl, rfl⟩ := H
 go_enter Try.func202, Try.ntmps202
 go_wp2_with (first | ((with_reducible refine gate_dst (N := 2) rfl ?_); refine box_event ?hg (N := 2) ?hd (cs := #[.int .i64 a0_0, .int .i64 a0_1]) (t := 26) ?hr ?_; (case hd => rfl); (case hg => rfl); (case hr => first | (go_simp; done) | (go_simp; rfl)); intro gb345 hg w3 hbox hb; have n0_ := Aside0.mk (below_step zb hb); have n1_ := Aside0.mk (hbox); have n2_ := Aside0.mk ((by rw [hg]; exact (below_size zb) : w.heap.size ≤ gb345)); have n3_ := Aside0.mk ((by rw [hg]; exact (below_size zb) : w.heap.size ≤ gb345)); clear HB; have HB := n0_; have BK345 := n1_; have GW345 := n2_; have GE345 := n3_; clear n0_ n1_ n2_ n3_; clear hb hbox hg) | ((with_reducible refine gate_dst (N := 3) rfl ?_); refine box_event ?hg (N := 3) ?hd (cs := #[.int .i64 a1_0, .int .i64 a1_1]) (t := 26) ?hr ?_; (case hd => rfl); (case hg => rfl); (case hr => first | (go_simp; done) | (go_simp; rfl)); intro gb346 hg w4 hbox hb; have n0_ := Aside0.mk (blk_below (g := gb345) (o := .cells #[.int .i64 a0_0, .int .i64 a0_1] 26 (0, 0)) zk hb); have n1_ := Aside0.mk (below_step zb hb); have n2_ := Aside0.mk (hbox); have n3_ := Aside0.mk ((by rw [hg]; exact (below_size zb) : w.heap.size ≤ gb346)); have n4_ := Aside0.mk ((by rw [hg]; exact (below_size zb) : w.heap.size ≤ gb346)); have n5_ := Aside0.mk ((by rw [hg]; exact Nat.ne_of_lt (blk_lt (g := gb345) (o := .cells #[.int .i64 a0_0, .int .i64 a0_1] 26 (0, 0)) zk) : gb345 ≠ gb346)); have n6_ := Aside0.mk ((by rw [hg]; exact Nat.ne_of_gt (blk_lt (g := gb345) (o := .cells #[.int .i64 a0_0, .int .i64 a0_1] 26 (0, 0)) zk) : gb346 ≠ gb345)); clear BK345; clear HB; have BK345 := n0_; have HB := n1_; have BK346 := n2_; have GW346 := n3_; have GE346 := n4_; have NB345_346 := n5_; have NB346_345 := n6_; clear n0_ n1_ n2_ n3_ n4_ n5_ n6_; clear hb hbox hg) | ((with_reducible refine gate_dst (N := 4) rfl ?_); refine box_event ?hg (N := 4) ?hd (cs := #[.int .i64 0, .int .i64 0]) (t := 26) ?hr ?_; (case hd => rfl); (case hg => rfl); (case hr => first | (go_simp; done) | (go_simp; rfl)); intro gb347 hg w5 hbox hb; have n0_ := Aside0.mk (blk_below (g := gb345) (o := .cells #[.int .i64 a0_0, .int .i64 a0_1] 26 (0, 0)) zk hb); have n1_ := Aside0.mk (blk_below (g := gb346) (o := .cells #[.int .i64 a1_0, .int .i64 a1_1] 26 (0, 0)) zk hb); have n2_ := Aside0.mk (below_step zb hb); have n3_ := Aside0.mk (hbox); have n4_ := Aside0.mk ((by rw [hg]; exact (below_size zb) : w.heap.size ≤ gb347)); have n5_ := Aside0.mk ((by rw [hg]; exact (below_size zb) : w.heap.size ≤ gb347)); have n6_ := Aside0.mk ((by rw [hg]; exact Nat.ne_of_lt (blk_lt (g := gb345) (o := .cells #[.int .i64 a0_0, .int .i64 a0_1] 26 (0, 0)) zk) : gb345 ≠ gb347)); have n7_ := Aside0.mk ((by rw [hg]; exact Nat.ne_of_gt (blk_lt (g := gb345) (o := .cells #[.int .i64 a0_0, .int .i64 a0_1] 26 (0, 0)) zk) : gb347 ≠ gb345)); have n8_ := Aside0.mk ((by rw [hg]; exact Nat.ne_of_lt (blk_lt (g := gb346) (o := .cells #[.int .i64 a1_0, .int .i64 a1_1] 26 (0, 0)) zk) : gb346 ≠ gb347)); have n9_ := Aside0.mk ((by rw [hg]; exact Nat.ne_of_gt (blk_lt (g := gb346) (o := .cells #[.int .i64 a1_0, .int .i64 a1_1] 26 (0, 0)) zk) : gb347 ≠ gb346)); clear BK345; clear BK346; clear HB; have BK345 := n0_; have BK346 := n1_; have HB := n2_; have BK347 := n3_; have GW347 := n4_; have GE347 := n5_; have NB345_347 := n6_; have NB347_345 := n7_; have NB346_347 := n8_; have NB347_346 := n9_; clear n0_ n1_ n2_ n3_ n4_ n5_ n6_ n7_ n8_ n9_; clear hb hbox hg; have hnb6 := NB345_346.out; have hnc6 := NB346_345.out; have hnb7 := NB345_347.out; have hnc7 := NB347_345.out; have hcz8_0 : w5.cell? ⟨gb345, 0, none⟩ = some (.int .i64 a0_0) := (blk_cell BK345.out 0).trans rfl; have hcz8_1 : w5.cell? ⟨gb345, 1, none⟩ = some (.int .i64 a0_1) := (blk_cell BK345.out 1).trans rfl; have hfz8_0 := blk_frozen BK345.out 0; have hfz8_1 := blk_frozen BK345.out 1; have hnb9 := NB346_347.out; have hnc9 := NB347_346.out; have hcz10_0 : w5.cell? ⟨gb346, 0, none⟩ = some (.int .i64 a1_0) := (blk_cell BK346.out 0).trans rfl; have hcz10_1 : w5.cell? ⟨gb346, 1, none⟩ = some (.int .i64 a1_1) := (blk_cell BK346.out 1).trans rfl; have hfz10_0 := blk_frozen BK346.out 0; have hfz10_1 := blk_frozen BK346.out 1; have hcz11_0 : w5.cell? ⟨gb347, 0, none⟩ = some (.int .i64 0) := (blk_cell BK347.out 0).trans rfl; have hcz11_1 : w5.cell? ⟨gb347, 1, none⟩ = some (.int .i64 0) := (blk_cell BK347.out 1).trans rfl; have hfz11_0 := blk_frozen BK347.out 0; have hfz11_1 := blk_frozen BK347.out 1))
 refine bodyPost_ret (results_cell_row rfl _ _ gb347 26 #[.int .i64 (wrap64 (a0_0 - a1_0)), .int .i64 (wrap64 (a0_1 - a1_1))] (0, 0) _ rfl (by (with_reducible repeat (first | refine blk_drewN ?_ _ | refine blk_drew ?_ | refine blk_alloc ?_ _)); refine blk_put (cs := #[.int .i64 (wrap64 (a0_0 - a1_0)), .int .i64 0]) ?_ 1 _ rfl; (with_reducible repeat (first | refine blk_drewN ?_ _ | refine blk_drew ?_ | refine blk_alloc ?_ _)); refine blk_put (cs := #[.int .i64 0, .int .i64 0]) ?_ 0 _ rfl; (with_reducible repeat (first | refine blk_drewN ?_ _ | refine blk_drew ?_ | refine blk_alloc ?_ _)); exact BK347.out) Try.underlying26 rfl (by kernel_rfl)) rfl ?_
 exact ⟨by first | rfl | (simp [errW_none, errW_some] <;> rfl) | (simp [*, errW_none, errW_some] <;> rfl), zb⟩
def impl_cross.f (a0_0 : Int) (a0_1 : Int) (a1_0 : Int) (a1_1 : Int) : Option (Int) := some (wrap64 ((wrap64 (a0_0 * a1_1)) - (wrap64 (a0_1 * a1_0))))
set_option maxHeartbeats 8000000 in
set_option maxRecDepth 100000 in
theorem impl_cross.calls (a0_0 : Int) (a0_1 : Int) (a1_0 : Int) (a1_1 : Int) (r : Int) (w : World) (h : impl_cross.f a0_0 a0_1 a1_0 a1_1 = some r) :
  Calls Try.prog 205 #[.agg #[.int .i64 a0_0, .int .i64 a0_1], .agg #[.int .i64 a1_0, .int .i64 a1_1]] w fun e w' => e = .returned (.int .i64 r) ∧ Below w.heap.size w w' := by
 have hu26 := Try.underlying26
 have HB := Aside0.mk (Below.refl w.heap.size w)
 have H : (some (wrap64 ((wrap64 (a0_0 * a1_1)) - (wrap64 (a0_1 * a1_0))))) = some r := h
 clear h
 obtain rfl := Option.some.inj H
 go_enter Try.func205, Try.ntmps205
 go_wp2_with (first | ((with_reducible refine gate_dst (N := 2) rfl ?_); refine box_event ?hg (N := 2) ?hd (cs := #[.int .i64 a0_0, .int .i64 a0_1]) (t := 26) ?hr ?_; (case hd => rfl); (case hg => rfl); (case hr => first | (go_simp; done) | (go_simp; rfl)); intro gb348 hg w3 hbox hb; have n0_ := Aside0.mk (below_step zb hb); have n1_ := Aside0.mk (hbox); have n2_ := Aside0.mk ((by rw [hg]; exact (below_size zb) : w.heap.size ≤ gb348)); have n3_ := Aside0.mk ((by rw [hg]; exact (below_size zb) : w.heap.size ≤ gb348)); clear HB; have HB := n0_; have BK348 := n1_; have GW348 := n2_; have GE348 := n3_; clear n0_ n1_ n2_ n3_; clear hb hbox hg) | ((with_reducible refine gate_dst (N := 3) rfl ?_); refine box_event ?hg (N := 3) ?hd (cs := #[.int .i64 a1_0, .int .i64 a1_1]) (t := 26) ?hr ?_; (case hd => rfl); (case hg => rfl); (case hr => first | (go_simp; done) | (go_simp; rfl)); intro gb349 hg w4 hbox hb; have n0_ := Aside0.mk (blk_below (g := gb348) (o := .cells #[.int .i64 a0_0, .int .i64 a0_1] 26 (0, 0)) zk hb); have n1_ := Aside0.mk (below_step zb hb); have n2_ := Aside0.mk (hbox); have n3_ := Aside0.mk ((by rw [hg]; exact (below_size zb) : w.heap.size ≤ gb349)); have n4_ := Aside0.mk ((by rw [hg]; exact (below_size zb) : w.heap.size ≤ gb349)); have n5_ := Aside0.mk ((by rw [hg]; exact Nat.ne_of_lt (blk_lt (g := gb348) (o := .cells #[.int .i64 a0_0, .int .i64 a0_1] 26 (0, 0)) zk) : gb348 ≠ gb349)); have n6_ := Aside0.mk ((by rw [hg]; exact Nat.ne_of_gt (blk_lt (g := gb348) (o := .cells #[.int .i64 a0_0, .int .i64 a0_1] 26 (0, 0)) zk) : gb349 ≠ gb348)); clear BK348; clear HB; have BK348 := n0_; have HB := n1_; have BK349 := n2_; have GW349 := n3_; have GE349 := n4_; have NB348_349 := n5_; have NB349_348 := n6_; clear n0_ n1_ n2_ n3_ n4_ n5_ n6_; clear hb hbox hg; have hnb5 := NB348_349.out; have hnc5 := NB349_348.out; have hcz6_0 : w4.cell? ⟨gb348, 0, none⟩ = some (.int .i64 a0_0) := (blk_cell BK348.out 0).trans rfl; have hcz6_1 : w4.cell? ⟨gb348, 1, none⟩ = some (.int .i64 a0_1) := (blk_cell BK348.out 1).trans rfl; have hfz6_0 := blk_frozen BK348.out 0; have hfz6_1 := blk_frozen BK348.out 1; have hcz7_0 : w4.cell? ⟨gb349, 0, none⟩ = some (.int .i64 a1_0) := (blk_cell BK349.out 0).trans rfl; have hcz7_1 : w4.cell? ⟨gb349, 1, none⟩ = some (.int .i64 a1_1) := (blk_cell BK349.out 1).trans rfl; have hfz7_0 := blk_frozen BK349.out 0; have hfz7_1 := blk_frozen BK349.out 1))
 go_ret
 exact ⟨by first | rfl | (simp [errW_none, errW_some] <;> rfl) | (simp [*, errW_none, errW_some] <;> rfl), zb⟩
end Go.Proofs.Ytphpdfcblchpnaa.Q
namespace Go.Proofs.Ytphpdfcblchpnaa.Q
open Go.RowKit Go.Proofs.YtphpdfcblchpnaaW.PrintWords Go.Proofs.YtphpdfcblchpnaaW.PrintLast Go.Proofs.YtphpdfcblchpnaaW.PrintMore
attribute [local go_sem] max2_int min2_int max_two min_two max_three min_three max_four min_four   -- for this text's walks alone
set_option linter.unusedVariables false
set_option linter.unusedSimpArgs false
def impl_turn.f (a0_0 : Int) (a0_1 : Int) (a1_0 : Int) (a1_1 : Int) (a2_0 : Int) (a2_1 : Int) : Option (Int) := (impl_Peg_less.f a1_0 a1_1 a0_0 a0_1).bind fun bt353 => ((impl_Peg_less.f a2_0 a2_1 a0_0 a0_1).bind fun bt355 => ((impl_cross.f bt353.1 bt353.2 bt355.1 bt355.2).bind fun t357 => (some t357)))
def impl_turn.T1 : Bool × List (List Nat × List Nat) := (true, [([], []), ([], []), ([0, 1], [0, 1]), ([], []), ([], []), ([3, 4, 2], [3, 4]), ([2, 5, 5], [2, 5]), ([6, 6, 0, 1, 2, 3, 4, 5, 6], [6])])
def impl_turn.B1 : List Nat := [0, 0, 3, 0, 0, 31, 63, 127]
theorem impl_turn.tab1 : rtab .any (opsOf Try.f173 1) = impl_turn.T1 := by kernel_rfl
theorem impl_turn.bits1 : waitsOk impl_turn.T1.2 impl_turn.B1 = true := by kernel_rfl
set_option maxHeartbeats 8000000 in
set_option maxRecDepth 100000 in
theorem impl_turn.calls (a0_0 : Int) (a0_1 : Int) (a1_0 : Int) (a1_1 : Int) (a2_0 : Int) (a2_1 : Int) (r : Int) (w : World) (h : impl_turn.f a0_0 a0_1 a1_0 a1_1 a2_0 a2_1 = some r) :
  Calls Try.prog 173 #[.agg #[.int .i64 a0_0, .int .i64 a0_1], .agg #[.int .i64 a1_0, .int .i64 a1_1], .agg #[.int .i64 a2_0, .int .i64 a2_1]] w fun e w' => e = .returned (.int .i64 r) ∧ Below w.heap.size w w' := by
 have hu26 := Try.underlying26
 have HB := Aside0.mk (Below.refl w.heap.size w)
 have H : ((impl_Peg_less.f a1_0 a1_1 a0_0 a0_1).bind fun bt353 => ((impl_Peg_less.f a2_0 a2_1 a0_0 a0_1).bind fun bt355 => ((impl_cross.f bt353.1 bt353.2 bt355.1 bt355.2).bind fun t357 => (some t357)))) = some r := h
 clear h
 replace H := Option.bind_eq_some_iff.mp H
 obtain ⟨⟨t353, t354⟩, A40, H⟩ := H
 replace H : ((impl_Peg_less.f a2_0 a2_1 a0_0 a0_1).bind fun bt355 => ((impl_cross.f t353 t354 bt355.1 bt355.2).bind fun t357 => (some t357))) = some r := H
 have A4 := Aside0.mk A40
 clear A40
 replace H := Option.bind_eq_some_iff.mp H
 obtain ⟨⟨t355, t356⟩, A50, H⟩ := H
 replace H : ((impl_cross.f t353 t354 t355 t356).bind fun t357 => (some t357)) = some r := H
 have A5 := Aside0.mk A50
 clear A50
 replace H := Option.bind_eq_some_iff.mp H
 obtain ⟨t357, A60, H⟩ := H
 replace H : (some t357) = some r := H
 have A6 := Aside0.mk A60
 clear A60
 obtain rfl := Option.some.inj H
 go_enter Try.func173, Try.ntmps173
 try go_wp2_with (first | ((with_reducible refine gate_dst (N := 3) rfl ?_); refine box_event ?hg (N := 3) ?hd (cs := #[.int .i64 a0_0, .int .i64 a0_1]) (t := 26) ?hr ?_; (case hd => rfl); (case hg => rfl); (case hr => first | (go_simp; done) | (go_simp; rfl)); intro gb350 hg w7 hbox hb; have n0_ := Aside0.mk (below_step zb hb); have n1_ := Aside0.mk (hbox); have n2_ := Aside0.mk ((by rw [hg]; exact (below_size zb) : w.heap.size ≤ gb350)); have n3_ := Aside0.mk ((by rw [hg]; exact (below_size zb) : w.heap.size ≤ gb350)); clear HB; have HB := n0_; have BK350 := n1_; have GW350 := n2_; have GE350 := n3_; clear n0_ n1_ n2_ n3_; clear hb hbox hg) | ((with_reducible refine gate_dst (N := 4) rfl ?_); refine box_event ?hg (N := 4) ?hd (cs := #[.int .i64 a1_0, .int .i64 a1_1]) (t := 26) ?hr ?_; (case hd => rfl); (case hg => rfl); (case hr => first | (go_simp; done) | (go_simp; rfl)); intro gb351 hg w8 hbox hb; have n0_ := Aside0.mk (blk_below (g := gb350) (o := .cells #[.int .i64 a0_0, .int .i64 a0_1] 26 (0, 0)) zk hb); have n1_ := Aside0.mk (below_step zb hb); have n2_ := Aside0.mk (hbox); have n3_ := Aside0.mk ((by rw [hg]; exact (below_size zb) : w.heap.size ≤ gb351)); have n4_ := Aside0.mk ((by rw [hg]; exact (below_size zb) : w.heap.size ≤ gb351)); have n5_ := Aside0.mk ((by rw [hg]; exact Nat.ne_of_lt (blk_lt (g := gb350) (o := .cells #[.int .i64 a0_0, .int .i64 a0_1] 26 (0, 0)) zk) : gb350 ≠ gb351)); have n6_ := Aside0.mk ((by rw [hg]; exact Nat.ne_of_gt (blk_lt (g := gb350) (o := .cells #[.int .i64 a0_0, .int .i64 a0_1] 26 (0, 0)) zk) : gb351 ≠ gb350)); clear BK350; clear HB; have BK350 := n0_; have HB := n1_; have BK351 := n2_; have GW351 := n3_; have GE351 := n4_; have NB350_351 := n5_; have NB351_350 := n6_; clear n0_ n1_ n2_ n3_ n4_ n5_ n6_; clear hb hbox hg) | ((with_reducible refine gate_dst (N := 5) rfl ?_); refine box_event ?hg (N := 5) ?hd (cs := #[.int .i64 a2_0, .int .i64 a2_1]) (t := 26) ?hr ?_; (case hd => rfl); (case hg => rfl); (case hr => first | (go_simp; done) | (go_simp; rfl)); intro gb352 hg w9 hbox hb; have n0_ := Aside0.mk (blk_below (g := gb350) (o := .cells #[.int .i64 a0_0, .int .i64 a0_1] 26 (0, 0)) zk hb); have n1_ := Aside0.mk (blk_below (g := gb351) (o := .cells #[.int .i64 a1_0, .int .i64 a1_1] 26 (0, 0)) zk hb); have n2_ := Aside0.mk (below_step zb hb); have n3_ := Aside0.mk (hbox); have n4_ := Aside0.mk ((by rw [hg]; exact (below_size zb) : w.heap.size ≤ gb352)); have n5_ := Aside0.mk ((by rw [hg]; exact (below_size zb) : w.heap.size ≤ gb352)); have n6_ := Aside0.mk ((by rw [hg]; exact Nat.ne_of_lt (blk_lt (g := gb350) (o := .cells #[.int .i64 a0_0, .int .i64 a0_1] 26 (0, 0)) zk) : gb350 ≠ gb352)); have n7_ := Aside0.mk ((by rw [hg]; exact Nat.ne_of_gt (blk_lt (g := gb350) (o := .cells #[.int .i64 a0_0, .int .i64 a0_1] 26 (0, 0)) zk) : gb352 ≠ gb350)); have n8_ := Aside0.mk ((by rw [hg]; exact Nat.ne_of_lt (blk_lt (g := gb351) (o := .cells #[.int .i64 a1_0, .int .i64 a1_1] 26 (0, 0)) zk) : gb351 ≠ gb352)); have n9_ := Aside0.mk ((by rw [hg]; exact Nat.ne_of_gt (blk_lt (g := gb351) (o := .cells #[.int .i64 a1_0, .int .i64 a1_1] 26 (0, 0)) zk) : gb352 ≠ gb351)); clear BK350; clear BK351; clear HB; have BK350 := n0_; have BK351 := n1_; have HB := n2_; have BK352 := n3_; have GW352 := n4_; have GE352 := n5_; have NB350_352 := n6_; have NB352_350 := n7_; have NB351_352 := n8_; have NB352_351 := n9_; clear n0_ n1_ n2_ n3_ n4_ n5_ n6_ n7_ n8_ n9_; clear hb hbox hg))
 have n0_ := Aside0.mk (blk_drew BK350.out)
 have n1_ := Aside0.mk (blk_drew BK351.out)
 have n2_ := Aside0.mk (blk_drew BK352.out)
 have n3_ := Aside0.mk (below_drew1 HB.out)
 clear BK350
 clear BK351
 clear BK352
 clear HB
 have BK350 := n0_
 have BK351 := n1_
 have BK352 := n2_
 have HB := n3_
 clear n0_ n1_ n2_ n3_
 refine start_ (n := 8) (S := fun w' => w'.cell? ⟨gb351, 0, none⟩ = some (.int .i64 a1_0) ∧ w'.cell? ⟨gb351, 1, none⟩ = some (.int .i64 a1_1) ∧ w'.cell? ⟨gb350, 0, none⟩ = some (.int .i64 a0_0) ∧ w'.cell? ⟨gb350, 1, none⟩ = some (.int .i64 a0_1) ∧ w'.cell? ⟨gb352, 0, none⟩ = some (.int .i64 a2_0) ∧ w'.cell? ⟨gb352, 1, none⟩ = some (.int .i64 a2_1)) (ds := []) (zl 8 0) (by kernel_rfl) rfl rfl ⟨(blk_cell BK351.out 0).trans rfl, (blk_cell BK351.out 1).trans rfl, (blk_cell BK350.out 0).trans rfl, (blk_cell BK350.out 1).trans rfl, (blk_cell BK352.out 0).trans rfl, (blk_cell BK352.out 1).trans rfl⟩ (fun hHeld => ?_); refine with_tabW impl_turn.tab1 impl_turn.bits1 (fun HT_ HW_ => ?_)
 generalize w9.drew = w10 at BK350 BK351 BK352 HB hHeld ⊢
 refine take_ (i := 0) (N := some 7) (v := ?_) (a' := ?_) (zl 8 1) rfl rfl (take_ofW HT_.out HW_.out (by kernel_rfl)) (fun _ _ _ h => h) (Or.inl ⟨by rfl, ?_⟩) hHeld ?_ ?_
 rotate_left
 ·rintro w' ⟨s0, s1, s2, s3, s4, s5⟩
  go_simp
  with_reducible rfl
 rotate_left
 ·exact zs
 refine take_ (i := 1) (N := some 8) (v := ?_) (a' := ?_) (zl 8 3) rfl rfl (take_ofW HT_.out HW_.out (by kernel_rfl)) (fun _ _ _ h => h) (Or.inl ⟨by rfl, ?_⟩) hHeld ?_ ?_
 rotate_left
 ·rintro w' ⟨s0, s1, s2, s3, s4, s5⟩
  go_simp
  with_reducible rfl
 rotate_left
 ·exact zs
 refine take_ (i := 3) (N := some 10) (v := ?_) (a' := ?_) (zl 8 11) rfl rfl (take_ofW HT_.out HW_.out (by kernel_rfl)) (fun _ _ _ h => h) (Or.inl ⟨by rfl, ?_⟩) hHeld ?_ ?_
 rotate_left
 ·rintro w' ⟨s0, s1, s2, s3, s4, s5⟩
  go_simp
  with_reducible rfl
 rotate_left
 ·exact zs
 refine take_ (i := 4) (N := some 11) (v := ?_) (a' := ?_) (zl 8 27) rfl rfl (take_ofW HT_.out HW_.out (by kernel_rfl)) (fun _ _ _ h => h) (Or.inl ⟨by rfl, ?_⟩) hHeld ?_ ?_
 rotate_left
 ·rintro w' ⟨s0, s1, s2, s3, s4, s5⟩
  go_simp
  with_reducible rfl
 rotate_left
 ·exact zs
 refine one_ (i := 2) (N := some 9) (zl 8 31) rfl rfl (one_of HT_.out (by kernel_rfl)) (by decide) (fun K hK => ?_)
 refine goes_ Try.func202 (by kernel_rfl) rfl #[.agg #[.int .i64 a1_0, .int .i64 a1_1], .agg #[.int .i64 a0_0, .int .i64 a0_1]] (by rfl) rfl rfl zn ?_
 with_reducible refine (impl_Peg_less.calls a1_0 a1_1 a0_0 a0_1 t353 t354 _ A4.out).mono ?_
 rintro e w11 ⟨rfl, hb⟩
 refine ⟨_, rfl, ?_⟩
 have n0_ := Aside0.mk (blk_below (g := gb350) (o := .cells #[.int .i64 a0_0, .int .i64 a0_1] 26 (0, 0)) zk hb)
 have n1_ := Aside0.mk (blk_below (g := gb351) (o := .cells #[.int .i64 a1_0, .int .i64 a1_1] 26 (0, 0)) zk hb)
 have n2_ := Aside0.mk (blk_below (g := gb352) (o := .cells #[.int .i64 a2_0, .int .i64 a2_1] 26 (0, 0)) zk hb)
 have n3_ := Aside0.mk (below_step zb hb)
 clear BK350
 clear BK351
 clear BK352
 clear HB
 have BK350 := n0_
 have BK351 := n1_
 have BK352 := n2_
 have HB := n3_
 clear n0_ n1_ n2_ n3_
 (try clear hb)
 (try clear hb2)
 (try clear hk)
 (try clear hi)
 refine hK.out _ _ ⟨(blk_cell BK351.out 0).trans rfl, (blk_cell BK351.out 1).trans rfl, (blk_cell BK350.out 0).trans rfl, (blk_cell BK350.out 1).trans rfl, (blk_cell BK352.out 0).trans rfl, (blk_cell BK352.out 1).trans rfl⟩ (fun hHeld => ?_)
 clear hK K
 refine norm_ (a' := ?_) ?_ ?_
 rotate_left
 ·show Act.put _ (some 9) _ = _
  exact zs
 refine one_ (i := 5) (N := some 12) (zl 8 63) rfl rfl (one_of HT_.out (by kernel_rfl)) (by decide) (fun K hK => ?_)
 refine goes_ Try.func202 (by kernel_rfl) rfl #[.agg #[.int .i64 a2_0, .int .i64 a2_1], .agg #[.int .i64 a0_0, .int .i64 a0_1]] (by rfl) rfl rfl zn ?_
 with_reducible refine (impl_Peg_less.calls a2_0 a2_1 a0_0 a0_1 t355 t356 _ A5.out).mono ?_
 rintro e w12 ⟨rfl, hb⟩
 refine ⟨_, rfl, ?_⟩
 have n0_ := Aside0.mk (blk_below (g := gb350) (o := .cells #[.int .i64 a0_0, .int .i64 a0_1] 26 (0, 0)) zk hb)
 have n1_ := Aside0.mk (blk_below (g := gb351) (o := .cells #[.int .i64 a1_0, .int .i64 a1_1] 26 (0, 0)) zk hb)
 have n2_ := Aside0.mk (blk_below (g := gb352) (o := .cells #[.int .i64 a2_0, .int .i64 a2_1] 26 (0, 0)) zk hb)
 have n3_ := Aside0.mk (below_step zb hb)
 clear BK350
 clear BK351
 clear BK352
 clear HB
 have BK350 := n0_
 have BK351 := n1_
 have BK352 := n2_
 have HB := n3_
 clear n0_ n1_ n2_ n3_
 (try clear hb)
 (try clear hb2)
 (try clear hk)
 (try clear hi)
 refine hK.out _ _ ⟨(blk_cell BK351.out 0).trans rfl, (blk_cell BK351.out 1).trans rfl, (blk_cell BK350.out 0).trans rfl, (blk_cell BK350.out 1).trans rfl, (blk_cell BK352.out 0).trans rfl, (blk_cell BK352.out 1).trans rfl⟩ (fun hHeld => ?_)
 clear hK K
 refine norm_ (a' := ?_) ?_ ?_
 rotate_left
 ·show Act.put _ (some 12) _ = _
  exact zs
 refine one_ (i := 6) (N := some 13) (zl 8 127) rfl rfl (one_of HT_.out (by kernel_rfl)) (by decide) (fun K hK => ?_)
 refine goes_ Try.func205 (by kernel_rfl) rfl #[.agg #[.int .i64 t353, .int .i64 t354], .agg #[.int .i64 t355, .int .i64 t356]] (by rfl) rfl rfl zn ?_
 with_reducible refine (impl_cross.calls t353 t354 t355 t356 t357 _ A6.out).mono ?_
 rintro e w13 ⟨rfl, hb⟩
 refine ⟨_, rfl, ?_⟩
 have n0_ := Aside0.mk (blk_below (g := gb350) (o := .cells #[.int .i64 a0_0, .int .i64 a0_1] 26 (0, 0)) zk hb)
 have n1_ := Aside0.mk (blk_below (g := gb351) (o := .cells #[.int .i64 a1_0, .int .i64 a1_1] 26 (0, 0)) zk hb)
 have n2_ := Aside0.mk (blk_below (g := gb352) (o := .cells #[.int .i64 a2_0, .int .i64 a2_1] 26 (0, 0)) zk hb)
 have n3_ := Aside0.mk (below_step zb hb)
 clear BK350
 clear BK351
 clear BK352
 clear HB
 have BK350 := n0_
 have BK351 := n1_
 have BK352 := n2_
 have HB := n3_
 clear n0_ n1_ n2_ n3_
 (try clear hb)
 (try clear hb2)
 (try clear hk)
 (try clear hi)
 refine hK.out _ _ ⟨(blk_cell BK351.out 0).trans rfl, (blk_cell BK351.out 1).trans rfl, (blk_cell BK350.out 0).trans rfl, (blk_cell BK350.out 1).trans rfl, (blk_cell BK352.out 0).trans rfl, (blk_cell BK352.out 1).trans rfl⟩ (fun hHeld => ?_)
 clear hK K
 refine norm_ (a' := ?_) ?_ ?_
 rotate_left
 ·show Act.put _ (some 13) _ = _
  exact zs
 refine zp 7 6 8 255 HT_ ?_
 refine done_ (done_of HT_.out (by kernel_rfl)) ?_
 try go_wp2
 go_ret
 exact ⟨by first | rfl | (simp [errW_none, errW_some] <;> rfl) | (simp [*, errW_none, errW_some] <;> rfl), zb⟩
def impl_at.f (l0 : List (S26)) (a1 : Int) : Option (Int × Int) := if (l0.length : Int) = 0 then (none) else (if 0 ≤ (Int.tmod (wrap64 ((Int.tmod a1 (l0.length : Int)) + (l0.length : Int))) (l0.length : Int)) then (if (Int.tmod (wrap64 ((Int.tmod a1 (l0.length : Int)) + (l0.length : Int))) (l0.length : Int)) < (l0.length : Int) then (some ((rd_T26 l0 (Int.tmod (wrap64 ((Int.tmod a1 (l0.length : Int)) + (l0.length : Int))) (l0.length : Int))).f0, (rd_T26 l0 (Int.tmod (wrap64 ((Int.tmod a1 (l0.length : Int)) + (l0.length : Int))) (l0.length : Int))).f1)) else (none)) else (none))
set_option maxHeartbeats 8000000 in
set_option maxRecDepth 100000 in
theorem impl_at.calls (A0 : Option Addr) (c0 : Nat) (l0 : List (S26)) (a1 : Int) (r1 : Int) (r2 : Int) (w : World) (hr0 : Kd.C k26 w A0 l0.length l0) (hc0 : l0.length ≤ c0) (h : impl_at.f l0 a1 = some (r1, r2)) :
  Calls Try.prog 174 #[.slice A0 l0.length c0, .int .i64 a1] w fun e w' => e = .returned (.agg #[.int .i64 r1, .int .i64 r2]) ∧ Below w.heap.size w w' := by
 have hu26 := Try.underlying26
 have HR0 := Aside0.mk hr0
 have HC0 := Aside0.mk hc0
 clear hr0 hc0
 have HB := Aside0.mk (Below.refl w.heap.size w)
 have H : (if (l0.length : Int) = 0 then (none) else (if 0 ≤ (Int.tmod (wrap64 ((Int.tmod a1 (l0.length : Int)) + (l0.length : Int))) (l0.length : Int)) then (if (Int.tmod (wrap64 ((Int.tmod a1 (l0.length : Int)) + (l0.length : Int))) (l0.length : Int)) < (l0.length : Int) then (some ((rd_T26 l0 (Int.tmod (wrap64 ((Int.tmod a1 (l0.length : Int)) + (l0.length : Int))) (l0.length : Int))).f0, (rd_T26 l0 (Int.tmod (wrap64 ((Int.tmod a1 (l0.length : Int)) + (l0.length : Int))) (l0.length : Int))).f1)) else (none)) else (none))) = some (r1, r2) := h
 clear h
 by_cases c3 : (l0.length : Int) = 0
 ·rw [if_pos c3] at H
  exact absurd H (by simp)
 ·rw [if_neg c3] at H
  have c3b0 : ((l0.length : Int) == 0) = false := beq_eq_false_iff_ne.mpr c3
  have c3b1 : ((l0.length : Int) != 0) = true := bne_iff_ne.mpr c3
  have c3b2 : ¬ (l0 = []) := fun h_ => c3 (by rw [h_]; rfl)
  obtain ⟨ji4, hji4⟩ : ∃ j_ : Int, (Int.tmod (wrap64 ((Int.tmod a1 (l0.length : Int)) + (l0.length : Int))) (l0.length : Int)) = j_ := ⟨_, rfl⟩
  replace H : (if 0 ≤ (ji4) then (if (ji4) < (l0.length : Int) then (some ((rd_T26 l0 (ji4)).f0, (rd_T26 l0 (ji4)).f1)) else (none)) else (none)) = some (r1, r2) := by first | (rw [hji4] at H; exact H) | (simp only [hji4] at H ⊢; exact H)
  by_cases c5 : 0 ≤ (ji4)
  ·rw [if_pos c5] at H
   have c5b0 : decide (0 ≤ (ji4)) = true := decide_eq_true c5
   clear c5
   by_cases c6 : (ji4) < (l0.length : Int)
   ·rw [if_pos c6] at H
    have c6b0 : decide ((ji4) < (l0.length : Int)) = true := decide_eq_true c6
    clear c6
    simp only [Option.some.injEq, Prod.mk.injEq] at H
    obtain ⟨rfl, rfl⟩ := H
    go_enter Try.func174, Try.ntmps174
    go_wp2_with (first | ((with_reducible refine gate_dst (N := 4) rfl ?_); refine box_event ?hg (N := 4) ?hd (cs := #[.int .i64 0, .int .i64 0]) (t := 26) ?hr ?_; (case hd => rfl); (case hg => rfl); (case hr => first | (go_simp; done) | (go_simp; rfl)); intro gb358 hg w7 hbox hb; have n0_ := Aside0.mk (below_step zb hb); have n1_ := Aside0.mk (hbox); have n2_ := Aside0.mk ((by rw [hg]; exact (below_size zb) : w.heap.size ≤ gb358)); have n3_ := Aside0.mk ((by rw [hg]; exact (below_size zb) : w.heap.size ≤ gb358)); clear HB; have HB := n0_; have BK358 := n1_; have GW358 := n2_; have GE358 := n3_; clear n0_ n1_ n2_ n3_; clear hb hbox hg; have p359 : 0 ≤ ((ji4) : Int) := of_decide_eq_true (by first | (with_reducible assumption) | assumption); have q359 : (ji4) < (l0.length : Int) := of_decide_eq_true (by first | (with_reducible assumption) | assumption); obtain ⟨ad359, e359, hx359_0, hx359_1⟩ := at_T26 HR0.out (ji4) p359 q359; cases e359; replace hx359_0 := zc HB hx359_0; replace hx359_1 := zc HB hx359_1; replace p359 := eq_true p359; replace q359 := eq_true q359; have hcz8_0 : w7.cell? ⟨gb358, 0, none⟩ = some (.int .i64 0) := (blk_cell BK358.out 0).trans rfl; have hcz8_1 : w7.cell? ⟨gb358, 1, none⟩ = some (.int .i64 0) := (blk_cell BK358.out 1).trans rfl; have hfz8_0 := blk_frozen BK358.out 0; have hfz8_1 := blk_frozen BK358.out 1))
    refine bodyPost_ret (results_cell_row rfl _ _ gb358 26 #[.int .i64 ((rd_T26 l0 (ji4)).f0), .int .i64 ((rd_T26 l0 (ji4)).f1)] (0, 0) _ rfl (by (with_reducible repeat (first | refine blk_drewN ?_ _ | refine blk_drew ?_ | refine blk_alloc ?_ _)); refine blk_put (cs := #[.int .i64 ((rd_T26 l0 (ji4)).f0), .int .i64 0]) ?_ 1 _ rfl; (with_reducible repeat (first | refine blk_drewN ?_ _ | refine blk_drew ?_ | refine blk_alloc ?_ _)); refine blk_put (cs := #[.int .i64 0, .int .i64 0]) ?_ 0 _ rfl; (with_reducible repeat (first | refine blk_drewN ?_ _ | refine blk_drew ?_ | refine blk_alloc ?_ _)); exact BK358.out) Try.underlying26 rfl (by kernel_rfl)) rfl ?_
    exact ⟨by first | rfl | (simp [errW_none, errW_some] <;> rfl) | (simp only [← hji4]; first | rfl | (simp [errW_none, errW_some] <;> rfl)) | (simp [*, errW_none, errW_some] <;> rfl), zb⟩
   ·rw [if_neg c6] at H
    exact absurd H (by simp)
  ·rw [if_neg c5] at H
   exact absurd H (by simp)
def impl_isOn.f (a0_0 : Int) (a0_1 : Int) (a1_0 : Int) (a1_1 : Int) (a2_0 : Int) (a2_1 : Int) : Option (Bool) := (impl_turn.f a0_0 a0_1 a1_0 a1_1 a2_0 a2_1).bind fun t363 => (if t363 = 0 then ((impl_within.f a2_0 (mn a0_0 a1_0) (mx a0_0 a1_0)).bind fun t364 => (if t364 = true then ((impl_within.f a2_1 (mn a0_1 a1_1) (mx a0_1 a1_1)).bind fun t365 => (some t365)) else (some false))) else (some false))
set_option maxHeartbeats 8000000 in
set_option maxRecDepth 100000 in
theorem impl_isOn.calls (a0_0 : Int) (a0_1 : Int) (a1_0 : Int) (a1_1 : Int) (a2_0 : Int) (a2_1 : Int) (r : Bool) (w : World) (h : impl_isOn.f a0_0 a0_1 a1_0 a1_1 a2_0 a2_1 = some r) :
  Calls Try.prog 178 #[.agg #[.int .i64 a0_0, .int .i64 a0_1], .agg #[.int .i64 a1_0, .int .i64 a1_1], .agg #[.int .i64 a2_0, .int .i64 a2_1]] w fun e w' => e = .returned (.bool r) ∧ Below w.heap.size w w' := by
 have hu26 := Try.underlying26
 have HB := Aside0.mk (Below.refl w.heap.size w)
 have H : ((impl_turn.f a0_0 a0_1 a1_0 a1_1 a2_0 a2_1).bind fun t363 => (if t363 = 0 then ((impl_within.f a2_0 (mn a0_0 a1_0) (mx a0_0 a1_0)).bind fun t364 => (if t364 = true then ((impl_within.f a2_1 (mn a0_1 a1_1) (mx a0_1 a1_1)).bind fun t365 => (some t365)) else (some false))) else (some false))) = some r := h
 clear h
 replace H := Option.bind_eq_some_iff.mp H
 obtain ⟨t363, A40, H⟩ := H
 replace H : (if t363 = 0 then ((impl_within.f a2_0 (mn a0_0 a1_0) (mx a0_0 a1_0)).bind fun t364 => (if t364 = true then ((impl_within.f a2_1 (mn a0_1 a1_1) (mx a0_1 a1_1)).bind fun t365 => (some t365)) else (some false))) else (some false)) = some r := H
 have A4 := Aside0.mk A40
 clear A40
 by_cases c5 : t363 = 0
 ·rw [if_pos c5] at H
  have c5b0 : (t363 == 0) = true := beq_iff_eq.mpr c5
  have c5b1 : (t363 != 0) = false := bne_eq_false_iff_eq.mpr c5
  clear c5
  obtain ⟨ji6, hji6⟩ : ∃ j_ : Int, (mn a0_0 a1_0) = j_ := ⟨_, rfl⟩
  replace H : ((impl_within.f a2_0 (ji6) (mx a0_0 a1_0)).bind fun t364 => (if t364 = true then ((impl_within.f a2_1 (mn a0_1 a1_1) (mx a0_1 a1_1)).bind fun t365 => (some t365)) else (some false))) = some r := by first | (rw [hji6] at H; exact H) | (simp only [hji6] at H ⊢; exact H)
  (try rw [hji6] at A4)
  have hji6_ : (if a1_0 < a0_0 then a1_0 else a0_0) = ji6 := hji6
  obtain ⟨ji7, hji7⟩ : ∃ j_ : Int, (mx a0_0 a1_0) = j_ := ⟨_, rfl⟩
  replace H : ((impl_within.f a2_0 (ji6) (ji7)).bind fun t364 => (if t364 = true then ((impl_within.f a2_1 (mn a0_1 a1_1) (mx a0_1 a1_1)).bind fun t365 => (some t365)) else (some false))) = some r := by first | (rw [hji7] at H; exact H) | (simp only [hji7] at H ⊢; exact H)
  (try rw [hji7] at A4)
  have hji7_ : (if a0_0 < a1_0 then a1_0 else a0_0) = ji7 := hji7
  replace H := Option.bind_eq_some_iff.mp H
  obtain ⟨t364, A80, H⟩ := H
  replace H : (if t364 = true then ((impl_within.f a2_1 (mn a0_1 a1_1) (mx a0_1 a1_1)).bind fun t365 => (some t365)) else (some false)) = some r := H
  have A8 := Aside0.mk A80
  clear A80
  by_cases c9 : t364 = true
  ·subst c9
   have H1 : ((impl_within.f a2_1 (mn a0_1 a1_1) (mx a0_1 a1_1)).bind fun t365 => (some t365)) = some r := by rw [if_pos rfl] at H; exact H
   clear H
   have H := H1
   clear H1
   obtain ⟨ji10, hji10⟩ : ∃ j_ : Int, (mn a0_1 a1_1) = j_ := ⟨_, rfl⟩
   replace H : ((impl_within.f a2_1 (ji10) (mx a0_1 a1_1)).bind fun t365 => (some t365)) = some r := by first | (rw [hji10] at H; exact H) | (simp only [hji10] at H ⊢; exact H)
   (try rw [hji10] at A4)
   (try rw [hji10] at A8)
   have hji10_ : (if a1_1 < a0_1 then a1_1 else a0_1) = ji10 := hji10
   obtain ⟨ji11, hji11⟩ : ∃ j_ : Int, (mx a0_1 a1_1) = j_ := ⟨_, rfl⟩
   replace H : ((impl_within.f a2_1 (ji10) (ji11)).bind fun t365 => (some t365)) = some r := by first | (rw [hji11] at H; exact H) | (simp only [hji11] at H ⊢; exact H)
   (try rw [hji11] at A4)
   (try rw [hji11] at A8)
   have hji11_ : (if a0_1 < a1_1 then a1_1 else a0_1) = ji11 := hji11
   replace H := Option.bind_eq_some_iff.mp H
   obtain ⟨t365, A120, H⟩ := H
   replace H : (some t365) = some r := H
   have A12 := Aside0.mk A120
   clear A120
   obtain rfl := Option.some.inj H
   go_enter Try.func178, Try.ntmps178
   go_wp2_with (first | ((with_reducible refine gate_dst (N := 3) rfl ?_); (try (refine gate_guard (by rfl) ?_; dsimp only)); refine box_event ?hg (N := 3) ?hd (cs := #[.int .i64 a0_0, .int .i64 a0_1]) (t := 26) ?hr ?_; (case hd => rfl); (case hg => rfl); (case hr => first | (go_simp; done) | (go_simp; rfl)); intro gb360 hg w13 hbox hb; have n0_ := Aside0.mk (below_step zb hb); have n1_ := Aside0.mk (hbox); have n2_ := Aside0.mk ((by rw [hg]; exact (below_size zb) : w.heap.size ≤ gb360)); have n3_ := Aside0.mk ((by rw [hg]; exact (below_size zb) : w.heap.size ≤ gb360)); clear HB; have HB := n0_; have BK360 := n1_; have GW360 := n2_; have GE360 := n3_; clear n0_ n1_ n2_ n3_; clear hb hbox hg) | ((with_reducible refine gate_dst (N := 4) rfl ?_); (try (refine gate_guard (by rfl) ?_; dsimp only)); refine box_event ?hg (N := 4) ?hd (cs := #[.int .i64 a1_0, .int .i64 a1_1]) (t := 26) ?hr ?_; (case hd => rfl); (case hg => rfl); (case hr => first | (go_simp; done) | (go_simp; rfl)); intro gb361 hg w14 hbox hb; have n0_ := Aside0.mk (blk_below (g := gb360) (o := .cells #[.int .i64 a0_0, .int .i64 a0_1] 26 (0, 0)) zk hb); have n1_ := Aside0.mk (below_step zb hb); have n2_ := Aside0.mk (hbox); have n3_ := Aside0.mk ((by rw [hg]; exact (below_size zb) : w.heap.size ≤ gb361)); have n4_ := Aside0.mk ((by rw [hg]; exact (below_size zb) : w.heap.size ≤ gb361)); have n5_ := Aside0.mk ((by rw [hg]; exact Nat.ne_of_lt (blk_lt (g := gb360) (o := .cells #[.int .i64 a0_0, .int .i64 a0_1] 26 (0, 0)) zk) : gb360 ≠ gb361)); have n6_ := Aside0.mk ((by rw [hg]; exact Nat.ne_of_gt (blk_lt (g := gb360) (o := .cells #[.int .i64 a0_0, .int .i64 a0_1] 26 (0, 0)) zk) : gb361 ≠ gb360)); clear BK360; clear HB; have BK360 := n0_; have HB := n1_; have BK361 := n2_; have GW361 := n3_; have GE361 := n4_; have NB360_361 := n5_; have NB361_360 := n6_; clear n0_ n1_ n2_ n3_ n4_ n5_ n6_; clear hb hbox hg) | ((with_reducible refine gate_dst (N := 5) rfl ?_); (try (refine gate_guard (by rfl) ?_; dsimp only)); refine box_event ?hg (N := 5) ?hd (cs := #[.int .i64 a2_0, .int .i64 a2_1]) (t := 26) ?hr ?_; (case hd => rfl); (case hg => rfl); (case hr => first | (go_simp; done) | (go_simp; rfl)); intro gb362 hg w15 hbox hb; have n0_ := Aside0.mk (blk_below (g := gb360) (o := .cells #[.int .i64 a0_0, .int .i64 a0_1] 26 (0, 0)) zk hb); have n1_ := Aside0.mk (blk_below (g := gb361) (o := .cells #[.int .i64 a1_0, .int .i64 a1_1] 26 (0, 0)) zk hb); have n2_ := Aside0.mk (below_step zb hb); have n3_ := Aside0.mk (hbox); have n4_ := Aside0.mk ((by rw [hg]; exact (below_size zb) : w.heap.size ≤ gb362)); have n5_ := Aside0.mk ((by rw [hg]; exact (below_size zb) : w.heap.size ≤ gb362)); have n6_ := Aside0.mk ((by rw [hg]; exact Nat.ne_of_lt (blk_lt (g := gb360) (o := .cells #[.int .i64 a0_0, .int .i64 a0_1] 26 (0, 0)) zk) : gb360 ≠ gb362)); have n7_ := Aside0.mk ((by rw [hg]; exact Nat.ne_of_gt (blk_lt (g := gb360) (o := .cells #[.int .i64 a0_0, .int .i64 a0_1] 26 (0, 0)) zk) : gb362 ≠ gb360)); have n8_ := Aside0.mk ((by rw [hg]; exact Nat.ne_of_lt (blk_lt (g := gb361) (o := .cells #[.int .i64 a1_0, .int .i64 a1_1] 26 (0, 0)) zk) : gb361 ≠ gb362)); have n9_ := Aside0.mk ((by rw [hg]; exact Nat.ne_of_gt (blk_lt (g := gb361) (o := .cells #[.int .i64 a1_0, .int .i64 a1_1] 26 (0, 0)) zk) : gb362 ≠ gb361)); clear BK360; clear BK361; clear HB; have BK360 := n0_; have BK361 := n1_; have HB := n2_; have BK362 := n3_; have GW362 := n4_; have GE362 := n5_; have NB360_362 := n6_; have NB362_360 := n7_; have NB361_362 := n8_; have NB362_361 := n9_; clear n0_ n1_ n2_ n3_ n4_ n5_ n6_ n7_ n8_ n9_; clear hb hbox hg; have hnb16 := NB360_361.out; have hnc16 := NB361_360.out; have hnb17 := NB360_362.out; have hnc17 := NB362_360.out; have hcz18_0 : w15.cell? ⟨gb360, 0, none⟩ = some (.int .i64 a0_0) := (blk_cell BK360.out 0).trans rfl; have hcz18_1 : w15.cell? ⟨gb360, 1, none⟩ = some (.int .i64 a0_1) := (blk_cell BK360.out 1).trans rfl; have hfz18_0 := blk_frozen BK360.out 0; have hfz18_1 := blk_frozen BK360.out 1; have hnb19 := NB361_362.out; have hnc19 := NB362_361.out; have hcz20_0 : w15.cell? ⟨gb361, 0, none⟩ = some (.int .i64 a1_0) := (blk_cell BK361.out 0).trans rfl; have hcz20_1 : w15.cell? ⟨gb361, 1, none⟩ = some (.int .i64 a1_1) := (blk_cell BK361.out 1).trans rfl; have hfz20_0 := blk_frozen BK361.out 0; have hfz20_1 := blk_frozen BK361.out 1; have hcz21_0 : w15.cell? ⟨gb362, 0, none⟩ = some (.int .i64 a2_0) := (blk_cell BK362.out 0).trans rfl; have hcz21_1 : w15.cell? ⟨gb362, 1, none⟩ = some (.int .i64 a2_1) := (blk_cell BK362.out 1).trans rfl; have hfz21_0 := blk_frozen BK362.out 0; have hfz21_1 := blk_frozen BK362.out 1) | ((with_reducible refine gate_callee (f := 173) rfl ?_); refine goesL_ (some 10) rfl rfl Try.func173 (by kernel_rfl) rfl #[.agg #[.int .i64 a0_0, .int .i64 a0_1], .agg #[.int .i64 a1_0, .int .i64 a1_1], .agg #[.int .i64 a2_0, .int .i64 a2_1]] rfl zn ?_; (with_reducible refine (impl_turn.calls a0_0 a0_1 a1_0 a1_1 a2_0 a2_1 t363 _ A4.out).mono ?_); rintro e w22 ⟨rfl, hb⟩; refine ⟨_, rfl, ?_⟩; have n0_ := Aside0.mk (blk_below (g := gb360) (o := .cells #[.int .i64 a0_0, .int .i64 a0_1] 26 (0, 0)) zk hb); have n1_ := Aside0.mk (blk_below (g := gb361) (o := .cells #[.int .i64 a1_0, .int .i64 a1_1] 26 (0, 0)) zk hb); have n2_ := Aside0.mk (blk_below (g := gb362) (o := .cells #[.int .i64 a2_0, .int .i64 a2_1] 26 (0, 0)) zk hb); have n3_ := Aside0.mk (below_step zb hb); clear BK360; clear BK361; clear BK362; clear HB; have BK360 := n0_; have BK361 := n1_; have BK362 := n2_; have HB := n3_; clear n0_ n1_ n2_ n3_; (try clear hb); (try clear hb2); (try clear hk); (try clear hi); have hcz23_0 : w22.cell? ⟨gb362, 0, none⟩ = some (.int .i64 a2_0) := (blk_cell BK362.out 0).trans rfl; have hcz23_1 : w22.cell? ⟨gb362, 1, none⟩ = some (.int .i64 a2_1) := (blk_cell BK362.out 1).trans rfl; have hfz23_0 := blk_frozen BK362.out 0; have hfz23_1 := blk_frozen BK362.out 1; have hcz24_0 : w22.cell? ⟨gb360, 0, none⟩ = some (.int .i64 a0_0) := (blk_cell BK360.out 0).trans rfl; have hcz24_1 : w22.cell? ⟨gb360, 1, none⟩ = some (.int .i64 a0_1) := (blk_cell BK360.out 1).trans rfl; have hfz24_0 := blk_frozen BK360.out 0; have hfz24_1 := blk_frozen BK360.out 1; have hcz25_0 : w22.cell? ⟨gb361, 0, none⟩ = some (.int .i64 a1_0) := (blk_cell BK361.out 0).trans rfl; have hcz25_1 : w22.cell? ⟨gb361, 1, none⟩ = some (.int .i64 a1_1) := (blk_cell BK361.out 1).trans rfl; have hfz25_0 := blk_frozen BK361.out 0; have hfz25_1 := blk_frozen BK361.out 1) | (go_at_call 135; (with_reducible refine (impl_within.calls a2_0 ji6 ji7 true _ A8.out).mono ?_); rintro e w' ⟨rfl, ⟨nd, rfl⟩⟩) | (go_at_call 135; (with_reducible refine (impl_within.calls a2_1 ji10 ji11 t365 _ A12.out).mono ?_); rintro e w' ⟨rfl, ⟨nd, rfl⟩⟩))
   go_ret
   exact ⟨by first | rfl | (simp [errW_none, errW_some] <;> rfl) | (simp only [← hji6, ← hji7, ← hji10, ← hji11]; first | rfl | (simp [errW_none, errW_some] <;> rfl)) | (simp [*, errW_none, errW_some] <;> rfl), zb⟩
  ·replace c9 := Bool.eq_false_iff.mpr c9
   subst c9
   have H1 : (some false) = some r := by rw [if_neg (show ¬ (false = true) by decide)] at H; exact H
   clear H
   have H := H1
   clear H1
   obtain rfl := Option.some.inj H
   go_enter Try.func178, Try.ntmps178
   go_wp2_with (first | ((with_reducible refine gate_dst (N := 3) rfl ?_); (try (refine gate_guard (by rfl) ?_; dsimp only)); refine box_event ?hg (N := 3) ?hd (cs := #[.int .i64 a0_0, .int .i64 a0_1]) (t := 26) ?hr ?_; (case hd => rfl); (case hg => rfl); (case hr => first | (go_simp; done) | (go_simp; rfl)); intro gb360 hg w26 hbox hb; have n0_ := Aside0.mk (below_step zb hb); have n1_ := Aside0.mk (hbox); have n2_ := Aside0.mk ((by rw [hg]; exact (below_size zb) : w.heap.size ≤ gb360)); have n3_ := Aside0.mk ((by rw [hg]; exact (below_size zb) : w.heap.size ≤ gb360)); clear HB; have HB := n0_; have BK360 := n1_; have GW360 := n2_; have GE360 := n3_; clear n0_ n1_ n2_ n3_; clear hb hbox hg) | ((with_reducible refine gate_dst (N := 4) rfl ?_); (try (refine gate_guard (by rfl) ?_; dsimp only)); refine box_event ?hg (N := 4) ?hd (cs := #[.int .i64 a1_0, .int .i64 a1_1]) (t := 26) ?hr ?_; (case hd => rfl); (case hg => rfl); (case hr => first | (go_simp; done) | (go_simp; rfl)); intro gb361 hg w27 hbox hb; have n0_ := Aside0.mk (blk_below (g := gb360) (o := .cells #[.int .i64 a0_0, .int .i64 a0_1] 26 (0, 0)) zk hb); have n1_ := Aside0.mk (below_step zb hb); have n2_ := Aside0.mk (hbox); have n3_ := Aside0.mk ((by rw [hg]; exact (below_size zb) : w.heap.size ≤ gb361)); have n4_ := Aside0.mk ((by rw [hg]; exact (below_size zb) : w.heap.size ≤ gb361)); have n5_ := Aside0.mk ((by rw [hg]; exact Nat.ne_of_lt (blk_lt (g := gb360) (o := .cells #[.int .i64 a0_0, .int .i64 a0_1] 26 (0, 0)) zk) : gb360 ≠ gb361)); have n6_ := Aside0.mk ((by rw [hg]; exact Nat.ne_of_gt (blk_lt (g := gb360) (o := .cells #[.int .i64 a0_0, .int .i64 a0_1] 26 (0, 0)) zk) : gb361 ≠ gb360)); clear BK360; clear HB; have BK360 := n0_; have HB := n1_; have BK361 := n2_; have GW361 := n3_; have GE361 := n4_; have NB360_361 := n5_; have NB361_360 := n6_; clear n0_ n1_ n2_ n3_ n4_ n5_ n6_; clear hb hbox hg) | ((with_reducible refine gate_dst (N := 5) rfl ?_); (try (refine gate_guard (by rfl) ?_; dsimp only)); refine box_event ?hg (N := 5) ?hd (cs := #[.int .i64 a2_0, .int .i64 a2_1]) (t := 26) ?hr ?_; (case hd => rfl); (case hg => rfl); (case hr => first | (go_simp; done) | (go_simp; rfl)); intro gb362 hg w28 hbox hb; have n0_ := Aside0.mk (blk_below (g := gb360) (o := .cells #[.int .i64 a0_0, .int .i64 a0_1] 26 (0, 0)) zk hb); have n1_ := Aside0.mk (blk_below (g := gb361) (o := .cells #[.int .i64 a1_0, .int .i64 a1_1] 26 (0, 0)) zk hb); have n2_ := Aside0.mk (below_step zb hb); have n3_ := Aside0.mk (hbox); have n4_ := Aside0.mk ((by rw [hg]; exact (below_size zb) : w.heap.size ≤ gb362)); have n5_ := Aside0.mk ((by rw [hg]; exact (below_size zb) : w.heap.size ≤ gb362)); have n6_ := Aside0.mk ((by rw [hg]; exact Nat.ne_of_lt (blk_lt (g := gb360) (o := .cells #[.int .i64 a0_0, .int .i64 a0_1] 26 (0, 0)) zk) : gb360 ≠ gb362)); have n7_ := Aside0.mk ((by rw [hg]; exact Nat.ne_of_gt (blk_lt (g := gb360) (o := .cells #[.int .i64 a0_0, .int .i64 a0_1] 26 (0, 0)) zk) : gb362 ≠ gb360)); have n8_ := Aside0.mk ((by rw [hg]; exact Nat.ne_of_lt (blk_lt (g := gb361) (o := .cells #[.int .i64 a1_0, .int .i64 a1_1] 26 (0, 0)) zk) : gb361 ≠ gb362)); have n9_ := Aside0.mk ((by rw [hg]; exact Nat.ne_of_gt (blk_lt (g := gb361) (o := .cells #[.int .i64 a1_0, .int .i64 a1_1] 26 (0, 0)) zk) : gb362 ≠ gb361)); clear BK360; clear BK361; clear HB; have BK360 := n0_; have BK361 := n1_; have HB := n2_; have BK362 := n3_; have GW362 := n4_; have GE362 := n5_; have NB360_362 := n6_; have NB362_360 := n7_; have NB361_362 := n8_; have NB362_361 := n9_; clear n0_ n1_ n2_ n3_ n4_ n5_ n6_ n7_ n8_ n9_; clear hb hbox hg; have hnb29 := NB360_361.out; have hnc29 := NB361_360.out; have hnb30 := NB360_362.out; have hnc30 := NB362_360.out; have hcz31_0 : w28.cell? ⟨gb360, 0, none⟩ = some (.int .i64 a0_0) := (blk_cell BK360.out 0).trans rfl; have hcz31_1 : w28.cell? ⟨gb360, 1, none⟩ = some (.int .i64 a0_1) := (blk_cell BK360.out 1).trans rfl; have hfz31_0 := blk_frozen BK360.out 0; have hfz31_1 := blk_frozen BK360.out 1; have hnb32 := NB361_362.out; have hnc32 := NB362_361.out; have hcz33_0 : w28.cell? ⟨gb361, 0, none⟩ = some (.int .i64 a1_0) := (blk_cell BK361.out 0).trans rfl; have hcz33_1 : w28.cell? ⟨gb361, 1, none⟩ = some (.int .i64 a1_1) := (blk_cell BK361.out 1).trans rfl; have hfz33_0 := blk_frozen BK361.out 0; have hfz33_1 := blk_frozen BK361.out 1; have hcz34_0 : w28.cell? ⟨gb362, 0, none⟩ = some (.int .i64 a2_0) := (blk_cell BK362.out 0).trans rfl; have hcz34_1 : w28.cell? ⟨gb362, 1, none⟩ = some (.int .i64 a2_1) := (blk_cell BK362.out 1).trans rfl; have hfz34_0 := blk_frozen BK362.out 0; have hfz34_1 := blk_frozen BK362.out 1) | ((with_reducible refine gate_callee (f := 173) rfl ?_); refine goesL_ (some 10) rfl rfl Try.func173 (by kernel_rfl) rfl #[.agg #[.int .i64 a0_0, .int .i64 a0_1], .agg #[.int .i64 a1_0, .int .i64 a1_1], .agg #[.int .i64 a2_0, .int .i64 a2_1]] rfl zn ?_; (with_reducible refine (impl_turn.calls a0_0 a0_1 a1_0 a1_1 a2_0 a2_1 t363 _ A4.out).mono ?_); rintro e w35 ⟨rfl, hb⟩; refine ⟨_, rfl, ?_⟩; have n0_ := Aside0.mk (blk_below (g := gb360) (o := .cells #[.int .i64 a0_0, .int .i64 a0_1] 26 (0, 0)) zk hb); have n1_ := Aside0.mk (blk_below (g := gb361) (o := .cells #[.int .i64 a1_0, .int .i64 a1_1] 26 (0, 0)) zk hb); have n2_ := Aside0.mk (blk_below (g := gb362) (o := .cells #[.int .i64 a2_0, .int .i64 a2_1] 26 (0, 0)) zk hb); have n3_ := Aside0.mk (below_step zb hb); clear BK360; clear BK361; clear BK362; clear HB; have BK360 := n0_; have BK361 := n1_; have BK362 := n2_; have HB := n3_; clear n0_ n1_ n2_ n3_; (try clear hb); (try clear hb2); (try clear hk); (try clear hi); have hcz36_0 : w35.cell? ⟨gb362, 0, none⟩ = some (.int .i64 a2_0) := (blk_cell BK362.out 0).trans rfl; have hcz36_1 : w35.cell? ⟨gb362, 1, none⟩ = some (.int .i64 a2_1) := (blk_cell BK362.out 1).trans rfl; have hfz36_0 := blk_frozen BK362.out 0; have hfz36_1 := blk_frozen BK362.out 1; have hcz37_0 : w35.cell? ⟨gb360, 0, none⟩ = some (.int .i64 a0_0) := (blk_cell BK360.out 0).trans rfl; have hcz37_1 : w35.cell? ⟨gb360, 1, none⟩ = some (.int .i64 a0_1) := (blk_cell BK360.out 1).trans rfl; have hfz37_0 := blk_frozen BK360.out 0; have hfz37_1 := blk_frozen BK360.out 1; have hcz38_0 : w35.cell? ⟨gb361, 0, none⟩ = some (.int .i64 a1_0) := (blk_cell BK361.out 0).trans rfl; have hcz38_1 : w35.cell? ⟨gb361, 1, none⟩ = some (.int .i64 a1_1) := (blk_cell BK361.out 1).trans rfl; have hfz38_0 := blk_frozen BK361.out 0; have hfz38_1 := blk_frozen BK361.out 1) | (go_at_call 135; (with_reducible refine (impl_within.calls a2_0 ji6 ji7 false _ A8.out).mono ?_); rintro e w' ⟨rfl, ⟨nd, rfl⟩⟩))
   go_ret
   exact ⟨by first | rfl | (simp [errW_none, errW_some] <;> rfl) | (simp only [← hji6, ← hji7]; first | rfl | (simp [errW_none, errW_some] <;> rfl)) | (simp [*, errW_none, errW_some] <;> rfl), zb⟩
 ·rw [if_neg c5] at H
  have c5b0 : (t363 == 0) = false := beq_eq_false_iff_ne.mpr c5
  have c5b1 : (t363 != 0) = true := bne_iff_ne.mpr c5
  obtain rfl := Option.some.inj H
  go_enter Try.func178, Try.ntmps178
  go_wp2_with (first | ((with_reducible refine gate_dst (N := 3) rfl ?_); (try (refine gate_guard (by rfl) ?_; dsimp only)); refine box_event ?hg (N := 3) ?hd (cs := #[.int .i64 a0_0, .int .i64 a0_1]) (t := 26) ?hr ?_; (case hd => rfl); (case hg => rfl); (case hr => first | (go_simp; done) | (go_simp; rfl)); intro gb360 hg w39 hbox hb; have n0_ := Aside0.mk (below_step zb hb); have n1_ := Aside0.mk (hbox); have n2_ := Aside0.mk ((by rw [hg]; exact (below_size zb) : w.heap.size ≤ gb360)); have n3_ := Aside0.mk ((by rw [hg]; exact (below_size zb) : w.heap.size ≤ gb360)); clear HB; have HB := n0_; have BK360 := n1_; have GW360 := n2_; have GE360 := n3_; clear n0_ n1_ n2_ n3_; clear hb hbox hg) | ((with_reducible refine gate_dst (N := 4) rfl ?_); (try (refine gate_guard (by rfl) ?_; dsimp only)); refine box_event ?hg (N := 4) ?hd (cs := #[.int .i64 a1_0, .int .i64 a1_1]) (t := 26) ?hr ?_; (case hd => rfl); (case hg => rfl); (case hr => first | (go_simp; done) | (go_simp; rfl)); intro gb361 hg w40 hbox hb; have n0_ := Aside0.mk (blk_below (g := gb360) (o := .cells #[.int .i64 a0_0, .int .i64 a0_1] 26 (0, 0)) zk hb); have n1_ := Aside0.mk (below_step zb hb); have n2_ := Aside0.mk (hbox); have n3_ := Aside0.mk ((by rw [hg]; exact (below_size zb) : w.heap.size ≤ gb361)); have n4_ := Aside0.mk ((by rw [hg]; exact (below_size zb) : w.heap.size ≤ gb361)); have n5_ := Aside0.mk ((by rw [hg]; exact Nat.ne_of_lt (blk_lt (g := gb360) (o := .cells #[.int .i64 a0_0, .int .i64 a0_1] 26 (0, 0)) zk) : gb360 ≠ gb361)); have n6_ := Aside0.mk ((by rw [hg]; exact Nat.ne_of_gt (blk_lt (g := gb360) (o := .cells #[.int .i64 a0_0, .int .i64 a0_1] 26 (0, 0)) zk) : gb361 ≠ gb360)); clear BK360; clear HB; have BK360 := n0_; have HB := n1_; have BK361 := n2_; have GW361 := n3_; have GE361 := n4_; have NB360_361 := n5_; have NB361_360 := n6_; clear n0_ n1_ n2_ n3_ n4_ n5_ n6_; clear hb hbox hg) | ((with_reducible refine gate_dst (N := 5) rfl ?_); (try (refine gate_guard (by rfl) ?_; dsimp only)); refine box_event ?hg (N := 5) ?hd (cs := #[.int .i64 a2_0, .int .i64 a2_1]) (t := 26) ?hr ?_; (case hd => rfl); (case hg => rfl); (case hr => first | (go_simp; done) | (go_simp; rfl)); intro gb362 hg w41 hbox hb; have n0_ := Aside0.mk (blk_below (g := gb360) (o := .cells #[.int .i64 a0_0, .int .i64 a0_1] 26 (0, 0)) zk hb); have n1_ := Aside0.mk (blk_below (g := gb361) (o := .cells #[.int .i64 a1_0, .int .i64 a1_1] 26 (0, 0)) zk hb); have n2_ := Aside0.mk (below_step zb hb); have n3_ := Aside0.mk (hbox); have n4_ := Aside0.mk ((by rw [hg]; exact (below_size zb) : w.heap.size ≤ gb362)); have n5_ := Aside0.mk ((by rw [hg]; exact (below_size zb) : w.heap.size ≤ gb362)); have n6_ := Aside0.mk ((by rw [hg]; exact Nat.ne_of_lt (blk_lt (g := gb360) (o := .cells #[.int .i64 a0_0, .int .i64 a0_1] 26 (0, 0)) zk) : gb360 ≠ gb362)); have n7_ := Aside0.mk ((by rw [hg]; exact Nat.ne_of_gt (blk_lt (g := gb360) (o := .cells #[.int .i64 a0_0, .int .i64 a0_1] 26 (0, 0)) zk) : gb362 ≠ gb360)); have n8_ := Aside0.mk ((by rw [hg]; exact Nat.ne_of_lt (blk_lt (g := gb361) (o := .cells #[.int .i64 a1_0, .int .i64 a1_1] 26 (0, 0)) zk) : gb361 ≠ gb362)); have n9_ := Aside0.mk ((by rw [hg]; exact Nat.ne_of_gt (blk_lt (g := gb361) (o := .cells #[.int .i64 a1_0, .int .i64 a1_1] 26 (0, 0)) zk) : gb362 ≠ gb361)); clear BK360; clear BK361; clear HB; have BK360 := n0_; have BK361 := n1_; have HB := n2_; have BK362 := n3_; have GW362 := n4_; have GE362 := n5_; have NB360_362 := n6_; have NB362_360 := n7_; have NB361_362 := n8_; have NB362_361 := n9_; clear n0_ n1_ n2_ n3_ n4_ n5_ n6_ n7_ n8_ n9_; clear hb hbox hg; have hnb42 := NB360_361.out; have hnc42 := NB361_360.out; have hnb43 := NB360_362.out; have hnc43 := NB362_360.out; have hcz44_0 : w41.cell? ⟨gb360, 0, none⟩ = some (.int .i64 a0_0) := (blk_cell BK360.out 0).trans rfl; have hcz44_1 : w41.cell? ⟨gb360, 1, none⟩ = some (.int .i64 a0_1) := (blk_cell BK360.out 1).trans rfl; have hfz44_0 := blk_frozen BK360.out 0; have hfz44_1 := blk_frozen BK360.out 1; have hnb45 := NB361_362.out; have hnc45 := NB362_361.out; have hcz46_0 : w41.cell? ⟨gb361, 0, none⟩ = some (.int .i64 a1_0) := (blk_cell BK361.out 0).trans rfl; have hcz46_1 : w41.cell? ⟨gb361, 1, none⟩ = some (.int .i64 a1_1) := (blk_cell BK361.out 1).trans rfl; have hfz46_0 := blk_frozen BK361.out 0; have hfz46_1 := blk_frozen BK361.out 1; have hcz47_0 : w41.cell? ⟨gb362, 0, none⟩ = some (.int .i64 a2_0) := (blk_cell BK362.out 0).trans rfl; have hcz47_1 : w41.cell? ⟨gb362, 1, none⟩ = some (.int .i64 a2_1) := (blk_cell BK362.out 1).trans rfl; have hfz47_0 := blk_frozen BK362.out 0; have hfz47_1 := blk_frozen BK362.out 1) | ((with_reducible refine gate_callee (f := 173) rfl ?_); refine goesL_ (some 10) rfl rfl Try.func173 (by kernel_rfl) rfl #[.agg #[.int .i64 a0_0, .int .i64 a0_1], .agg #[.int .i64 a1_0, .int .i64 a1_1], .agg #[.int .i64 a2_0, .int .i64 a2_1]] rfl zn ?_; (with_reducible refine (impl_turn.calls a0_0 a0_1 a1_0 a1_1 a2_0 a2_1 t363 _ A4.out).mono ?_); rintro e w48 ⟨rfl, hb⟩; refine ⟨_, rfl, ?_⟩; have n0_ := Aside0.mk (blk_below (g := gb360) (o := .cells #[.int .i64 a0_0, .int .i64 a0_1] 26 (0, 0)) zk hb); have n1_ := Aside0.mk (blk_below (g := gb361) (o := .cells #[.int .i64 a1_0, .int .i64 a1_1] 26 (0, 0)) zk hb); have n2_ := Aside0.mk (blk_below (g := gb362) (o := .cells #[.int .i64 a2_0, .int .i64 a2_1] 26 (0, 0)) zk hb); have n3_ := Aside0.mk (below_step zb hb); clear BK360; clear BK361; clear BK362; clear HB; have BK360 := n0_; have BK361 := n1_; have BK362 := n2_; have HB := n3_; clear n0_ n1_ n2_ n3_; (try clear hb); (try clear hb2); (try clear hk); (try clear hi)))
  go_ret
  exact ⟨by first | rfl | (simp [errW_none, errW_some] <;> rfl) | (simp [*, errW_none, errW_some] <;> rfl), zb⟩
end Go.Proofs.Ytphpdfcblchpnaa.Q
namespace Go.Proofs.Ytphpdfcblchpnaa.Q
open Go.RowKit Go.Proofs.YtphpdfcblchpnaaW.PrintWords Go.Proofs.YtphpdfcblchpnaaW.PrintLast Go.Proofs.YtphpdfcblchpnaaW.PrintMore
attribute [local go_sem] max2_int min2_int max_two min_two max_three min_three max_four min_four   -- for this text's walks alone
set_option linter.unusedVariables false
set_option linter.unusedSimpArgs false
def laws_szPegS.f (l0 : List (S97)) (a1 : Int) : Option (Int) := if (wrap64 (a1 - (l0.length : Int))) < 0 then (some (-1)) else (some (wrap64 (a1 - (l0.length : Int))))
set_option maxHeartbeats 8000000 in
set_option maxRecDepth 100000 in
theorem laws_szPegS.calls (A0 : Option Addr) (c0 : Nat) (l0 : List (S97)) (a1 : Int) (r : Int) (w : World) (hr0 : Kd.C k97 w A0 l0.length l0) (hc0 : l0.length ≤ c0) (h : laws_szPegS.f l0 a1 = some r) :
  Calls Try.prog 35 #[.slice A0 l0.length c0, .int .i64 a1] w fun e w' => e = .returned (.int .i64 r) ∧ Drawn0 w w' := by
 have HR0 := Aside0.mk hr0
 have HC0 := Aside0.mk hc0
 clear hr0 hc0
 have H : (if (wrap64 (a1 - (l0.length : Int))) < 0 then (some (-1)) else (some (wrap64 (a1 - (l0.length : Int))))) = some r := h
 clear h
 by_cases c3 : (wrap64 (a1 - (l0.length : Int))) < 0
 ·rw [if_pos c3] at H
  have c3b0 : decide ((wrap64 (a1 - (l0.length : Int))) < 0) = true := decide_eq_true c3
  clear c3
  obtain rfl := Option.some.inj H
  go_enter Try.func35, Try.ntmps35
  go_wp2
  go_ret
  exact ⟨by first | rfl | (simp; done) | (simp [*]; done), by repeat (first | exact Drawn0.refl _ | apply Drawn0.step)⟩
 ·rw [if_neg c3] at H
  have c3b0 : decide ((wrap64 (a1 - (l0.length : Int))) < 0) = false := decide_eq_false c3
  clear c3
  obtain rfl := Option.some.inj H
  go_enter Try.func35, Try.ntmps35
  go_wp2
  go_ret
  exact ⟨by first | rfl | (simp; done) | (simp [*]; done), by repeat (first | exact Drawn0.refl _ | apply Drawn0.step)⟩
end Go.Proofs.Ytphpdfcblchpnaa.Q
namespace Go.Proofs.Ytphpdfcblchpnaa.Q
open Go.RowKit Go.Proofs.YtphpdfcblchpnaaW.PrintWords Go.Proofs.YtphpdfcblchpnaaW.PrintLast Go.Proofs.YtphpdfcblchpnaaW.PrintMore
attribute [local go_sem] max2_int min2_int max_two min_two max_three min_three max_four min_four   -- for this text's walks alone
set_option linter.unusedVariables false
set_option linter.unusedSimpArgs false
def spec_pgLess.f (a0_0 : Int) (a0_1 : Int) (a1_0 : Int) (a1_1 : Int) : Option (Bool) := if a0_0 < a1_0 then (some true) else (if a0_0 = a1_0 then (some (decide (a0_1 < a1_1))) else (some false))
set_option maxHeartbeats 8000000 in
set_option maxRecDepth 100000 in
theorem spec_pgLess.calls (a0_0 : Int) (a0_1 : Int) (a1_0 : Int) (a1_1 : Int) (r : Bool) (w : World) (h : spec_pgLess.f a0_0 a0_1 a1_0 a1_1 = some r) :
  Calls Try.prog 237 #[.agg #[.int .i64 a0_0, .int .i64 a0_1], .agg #[.int .i64 a1_0, .int .i64 a1_1]] w fun e w' => e = .returned (.bool r) ∧ Below w.heap.size w w' := by
 have hu26 := Try.underlying26
 have HB := Aside0.mk (Below.refl w.heap.size w)
 have H : (if a0_0 < a1_0 then (some true) else (if a0_0 = a1_0 then (some (decide (a0_1 < a1_1))) else (some false))) = some r := h
 clear h
 by_cases c3 : a0_0 < a1_0
 ·rw [if_pos c3] at H
  have c3b0 : decide (a0_0 < a1_0) = true := decide_eq_true c3
  clear c3
  obtain rfl := Option.some.inj H
  go_enter Try.func237, Try.ntmps237
  go_wp2_with (first | ((with_reducible refine gate_dst (N := 2) rfl ?_); refine box_event ?hg (N := 2) ?hd (cs := #[.int .i64 a0_0, .int .i64 a0_1]) (t := 26) ?hr ?_; (case hd => rfl); (case hg => rfl); (case hr => first | (go_simp; done) | (go_simp; rfl)); intro gb819 hg w4 hbox hb; have n0_ := Aside0.mk (below_step zb hb); have n1_ := Aside0.mk (hbox); have n2_ := Aside0.mk ((by rw [hg]; exact (below_size zb) : w.heap.size ≤ gb819)); have n3_ := Aside0.mk ((by rw [hg]; exact (below_size zb) : w.heap.size ≤ gb819)); clear HB; have HB := n0_; have BK819 := n1_; have GW819 := n2_; have GE819 := n3_; clear n0_ n1_ n2_ n3_; clear hb hbox hg) | ((with_reducible refine gate_dst (N := 3) rfl ?_); refine box_event ?hg (N := 3) ?hd (cs := #[.int .i64 a1_0, .int .i64 a1_1]) (t := 26) ?hr ?_; (case hd => rfl); (case hg => rfl); (case hr => first | (go_simp; done) | (go_simp; rfl)); intro gb820 hg w5 hbox hb; have n0_ := Aside0.mk (blk_below (g := gb819) (o := .cells #[.int .i64 a0_0, .int .i64 a0_1] 26 (0, 0)) zk hb); have n1_ := Aside0.mk (below_step zb hb); have n2_ := Aside0.mk (hbox); have n3_ := Aside0.mk ((by rw [hg]; exact (below_size zb) : w.heap.size ≤ gb820)); have n4_ := Aside0.mk ((by rw [hg]; exact (below_size zb) : w.heap.size ≤ gb820)); have n5_ := Aside0.mk ((by rw [hg]; exact Nat.ne_of_lt (blk_lt (g := gb819) (o := .cells #[.int .i64 a0_0, .int .i64 a0_1] 26 (0, 0)) zk) : gb819 ≠ gb820)); have n6_ := Aside0.mk ((by rw [hg]; exact Nat.ne_of_gt (blk_lt (g := gb819) (o := .cells #[.int .i64 a0_0, .int .i64 a0_1] 26 (0, 0)) zk) : gb820 ≠ gb819)); clear BK819; clear HB; have BK819 := n0_; have HB := n1_; have BK820 := n2_; have GW820 := n3_; have GE820 := n4_; have NB819_820 := n5_; have NB820_819 := n6_; clear n0_ n1_ n2_ n3_ n4_ n5_ n6_; clear hb hbox hg; have hnb6 := NB819_820.out; have hnc6 := NB820_819.out; have hcz7_0 : w5.cell? ⟨gb819, 0, none⟩ = some (.int .i64 a0_0) := (blk_cell BK819.out 0).trans rfl; have hcz7_1 : w5.cell? ⟨gb819, 1, none⟩ = some (.int .i64 a0_1) := (blk_cell BK819.out 1).trans rfl; have hfz7_0 := blk_frozen BK819.out 0; have hfz7_1 := blk_frozen BK819.out 1; have hcz8_0 : w5.cell? ⟨gb820, 0, none⟩ = some (.int .i64 a1_0) := (blk_cell BK820.out 0).trans rfl; have hcz8_1 : w5.cell? ⟨gb820, 1, none⟩ = some (.int .i64 a1_1) := (blk_cell BK820.out 1).trans rfl; have hfz8_0 := blk_frozen BK820.out 0; have hfz8_1 := blk_frozen BK820.out 1))
  go_ret
  exact ⟨by first | rfl | (simp [errW_none, errW_some] <;> rfl) | (simp [*, errW_none, errW_some] <;> rfl), zb⟩
 ·rw [if_neg c3] at H
  have c3b0 : decide (a0_0 < a1_0) = false := decide_eq_false c3
  clear c3
  by_cases c9 : a0_0 = a1_0
  ·rw [if_pos c9] at H
   have c9b0 : (a0_0 == a1_0) = true := beq_iff_eq.mpr c9
   have c9b1 : (a0_0 != a1_0) = false := bne_eq_false_iff_eq.mpr c9
   clear c9
   obtain rfl := Option.some.inj H
   go_enter Try.func237, Try.ntmps237
   go_wp2_with (first | ((with_reducible refine gate_dst (N := 2) rfl ?_); refine box_event ?hg (N := 2) ?hd (cs := #[.int .i64 a0_0, .int .i64 a0_1]) (t := 26) ?hr ?_; (case hd => rfl); (case hg => rfl); (case hr => first | (go_simp; done) | (go_simp; rfl)); intro gb819 hg w10 hbox hb; have n0_ := Aside0.mk (below_step zb hb); have n1_ := Aside0.mk (hbox); have n2_ := Aside0.mk ((by rw [hg]; exact (below_size zb) : w.heap.size ≤ gb819)); have n3_ := Aside0.mk ((by rw [hg]; exact (below_size zb) : w.heap.size ≤ gb819)); clear HB; have HB := n0_; have BK819 := n1_; have GW819 := n2_; have GE819 := n3_; clear n0_ n1_ n2_ n3_; clear hb hbox hg) | ((with_reducible refine gate_dst (N := 3) rfl ?_); refine box_event ?hg (N := 3) ?hd (cs := #[.int .i64 a1_0, .int .i64 a1_1]) (t := 26) ?hr ?_; (case hd => rfl); (case hg => rfl); (case hr => first | (go_simp; done) | (go_simp; rfl)); intro gb820 hg w11 hbox hb; have n0_ := Aside0.mk (blk_below (g := gb819) (o := .cells #[.int .i64 a0_0, .int .i64 a0_1] 26 (0, 0)) zk hb); have n1_ := Aside0.mk (below_step zb hb); have n2_ := Aside0.mk (hbox); have n3_ := Aside0.mk ((by rw [hg]; exact (below_size zb) : w.heap.size ≤ gb820)); have n4_ := Aside0.mk ((by rw [hg]; exact (below_size zb) : w.heap.size ≤ gb820)); have n5_ := Aside0.mk ((by rw [hg]; exact Nat.ne_of_lt (blk_lt (g := gb819) (o := .cells #[.int .i64 a0_0, .int .i64 a0_1] 26 (0, 0)) zk) : gb819 ≠ gb820)); have n6_ := Aside0.mk ((by rw [hg]; exact Nat.ne_of_gt (blk_lt (g := gb819) (o := .cells #[.int .i64 a0_0, .int .i64 a0_1] 26 (0, 0)) zk) : gb820 ≠ gb819)); clear BK819; clear HB; have BK819 := n0_; have HB := n1_; have BK820 := n2_; have GW820 := n3_; have GE820 := n4_; have NB819_820 := n5_; have NB820_819 := n6_; clear n0_ n1_ n2_ n3_ n4_ n5_ n6_; clear hb hbox hg; have hnb12 := NB819_820.out; have hnc12 := NB820_819.out; have hcz13_0 : w11.cell? ⟨gb819, 0, none⟩ = some (.int .i64 a0_0) := (blk_cell BK819.out 0).trans rfl; have hcz13_1 : w11.cell? ⟨gb819, 1, none⟩ = some (.int .i64 a0_1) := (blk_cell BK819.out 1).trans rfl; have hfz13_0 := blk_frozen BK819.out 0; have hfz13_1 := blk_frozen BK819.out 1; have hcz14_0 : w11.cell? ⟨gb820, 0, none⟩ = some (.int .i64 a1_0) := (blk_cell BK820.out 0).trans rfl; have hcz14_1 : w11.cell? ⟨gb820, 1, none⟩ = some (.int .i64 a1_1) := (blk_cell BK820.out 1).trans rfl; have hfz14_0 := blk_frozen BK820.out 0; have hfz14_1 := blk_frozen BK820.out 1))
   go_ret
   exact ⟨by first | rfl | (simp [errW_none, errW_some] <;> rfl) | (simp [*, errW_none, errW_some] <;> rfl), zb⟩
  ·rw [if_neg c9] at H
   have c9b0 : (a0_0 == a1_0) = false := beq_eq_false_iff_ne.mpr c9
   have c9b1 : (a0_0 != a1_0) = true := bne_iff_ne.mpr c9
   obtain rfl := Option.some.inj H
   go_enter Try.func237, Try.ntmps237
   go_wp2_with (first | ((with_reducible refine gate_dst (N := 2) rfl ?_); refine box_event ?hg (N := 2) ?hd (cs := #[.int .i64 a0_0, .int .i64 a0_1]) (t := 26) ?hr ?_; (case hd => rfl); (case hg => rfl); (case hr => first | (go_simp; done) | (go_simp; rfl)); intro gb819 hg w15 hbox hb; have n0_ := Aside0.mk (below_step zb hb); have n1_ := Aside0.mk (hbox); have n2_ := Aside0.mk ((by rw [hg]; exact (below_size zb) : w.heap.size ≤ gb819)); have n3_ := Aside0.mk ((by rw [hg]; exact (below_size zb) : w.heap.size ≤ gb819)); clear HB; have HB := n0_; have BK819 := n1_; have GW819 := n2_; have GE819 := n3_; clear n0_ n1_ n2_ n3_; clear hb hbox hg) | ((with_reducible refine gate_dst (N := 3) rfl ?_); refine box_event ?hg (N := 3) ?hd (cs := #[.int .i64 a1_0, .int .i64 a1_1]) (t := 26) ?hr ?_; (case hd => rfl); (case hg => rfl); (case hr => first | (go_simp; done) | (go_simp; rfl)); intro gb820 hg w16 hbox hb; have n0_ := Aside0.mk (blk_below (g := gb819) (o := .cells #[.int .i64 a0_0, .int .i64 a0_1] 26 (0, 0)) zk hb); have n1_ := Aside0.mk (below_step zb hb); have n2_ := Aside0.mk (hbox); have n3_ := Aside0.mk ((by rw [hg]; exact (below_size zb) : w.heap.size ≤ gb820)); have n4_ := Aside0.mk ((by rw [hg]; exact (below_size zb) : w.heap.size ≤ gb820)); have n5_ := Aside0.mk ((by rw [hg]; exact Nat.ne_of_lt (blk_lt (g := gb819) (o := .cells #[.int .i64 a0_0, .int .i64 a0_1] 26 (0, 0)) zk) : gb819 ≠ gb820)); have n6_ := Aside0.mk ((by rw [hg]; exact Nat.ne_of_gt (blk_lt (g := gb819) (o := .cells #[.int .i64 a0_0, .int .i64 a0_1] 26 (0, 0)) zk) : gb820 ≠ gb819)); clear BK819; clear HB; have BK819 := n0_; have HB := n1_; have BK820 := n2_; have GW820 := n3_; have GE820 := n4_; have NB819_820 := n5_; have NB820_819 := n6_; clear n0_ n1_ n2_ n3_ n4_ n5_ n6_; clear hb hbox hg; have hnb17 := NB819_820.out; have hnc17 := NB820_819.out; have hcz18_0 : w16.cell? ⟨gb819, 0, none⟩ = some (.int .i64 a0_0) := (blk_cell BK819.out 0).trans rfl; have hcz18_1 : w16.cell? ⟨gb819, 1, none⟩ = some (.int .i64 a0_1) := (blk_cell BK819.out 1).trans rfl; have hfz18_0 := blk_frozen BK819.out 0; have hfz18_1 := blk_frozen BK819.out 1; have hcz19_0 : w16.cell? ⟨gb820, 0, none⟩ = some (.int .i64 a1_0) := (blk_cell BK820.out 0).trans rfl; have hcz19_1 : w16.cell? ⟨gb820, 1, none⟩ = some (.int .i64 a1_1) := (blk_cell BK820.out 1).trans rfl; have hfz19_0 := blk_frozen BK820.out 0; have hfz19_1 := blk_frozen BK820.out 1))
   go_ret
   exact ⟨by first | rfl | (simp [errW_none, errW_some] <;> rfl) | (simp [*, errW_none, errW_some] <;> rfl), zb⟩
end Go.Proofs.Ytphpdfcblchpnaa.Q
namespace Go.Proofs.Ytphpdfcblchpnaa.Q
open Go.RowKit Go.Proofs.YtphpdfcblchpnaaW.PrintWords Go.Proofs.YtphpdfcblchpnaaW.PrintLast Go.Proofs.YtphpdfcblchpnaaW.PrintMore
attribute [local go_sem] max2_int min2_int max_two min_two max_three min_three max_four min_four   -- for this text's walks alone
set_option linter.unusedVariables false
set_option linter.unusedSimpArgs false
def laws_toPeg.f (a0_0 : Int) (a0_1 : Int) : Option (Int × Int) := some (a0_0, a0_1)
set_option maxHeartbeats 8000000 in
set_option maxRecDepth 100000 in
theorem laws_toPeg.calls (a0_0 : Int) (a0_1 : Int) (r1 : Int) (r2 : Int) (w : World) (h : laws_toPeg.f a0_0 a0_1 = some (r1, r2)) :
  Calls Try.prog 114 #[.agg #[.int .i64 a0_0, .int .i64 a0_1]] w fun e w' => e = .returned (.agg #[.int .i64 r1, .int .i64 r2]) ∧ Below w.heap.size w w' := by
 have hu97 := Try.underlying97
 have hu26 := Try.underlying26
 have HB := Aside0.mk (Below.refl w.heap.size w)
 have H : (some (a0_0, a0_1)) = some (r1, r2) := h
 clear h
 simp only [Option.some.injEq, Prod.mk.injEq] at H
 obtain ⟨rfl, rfl⟩ := H
 go_enter Try.func114, Try.ntmps114
 go_wp2_with (first | ((with_reducible refine gate_dst (N := 1) rfl ?_); refine box_event ?hg (N := 1) ?hd (cs := #[.int .i64 a0_0, .int .i64 a0_1]) (t := 97) ?hr ?_; (case hd => rfl); (case hg => rfl); (case hr => first | (go_simp; done) | (go_simp; rfl)); intro gb894 hg w2 hbox hb; have n0_ := Aside0.mk (below_step zb hb); have n1_ := Aside0.mk (hbox); have n2_ := Aside0.mk ((by rw [hg]; exact (below_size zb) : w.heap.size ≤ gb894)); have n3_ := Aside0.mk ((by rw [hg]; exact (below_size zb) : w.heap.size ≤ gb894)); clear HB; have HB := n0_; have BK894 := n1_; have GW894 := n2_; have GE894 := n3_; clear n0_ n1_ n2_ n3_; clear hb hbox hg) | ((with_reducible refine gate_dst (N := 2) rfl ?_); refine box_event ?hg (N := 2) ?hd (cs := #[.int .i64 0, .int .i64 0]) (t := 26) ?hr ?_; (case hd => rfl); (case hg => rfl); (case hr => first | (go_simp; done) | (go_simp; rfl)); intro gb895 hg w3 hbox hb; have n0_ := Aside0.mk (blk_below (g := gb894) (o := .cells #[.int .i64 a0_0, .int .i64 a0_1] 97 (0, 0)) zk hb); have n1_ := Aside0.mk (below_step zb hb); have n2_ := Aside0.mk (hbox); have n3_ := Aside0.mk ((by rw [hg]; exact (below_size zb) : w.heap.size ≤ gb895)); have n4_ := Aside0.mk ((by rw [hg]; exact (below_size zb) : w.heap.size ≤ gb895)); have n5_ := Aside0.mk ((by rw [hg]; exact Nat.ne_of_lt (blk_lt (g := gb894) (o := .cells #[.int .i64 a0_0, .int .i64 a0_1] 97 (0, 0)) zk) : gb894 ≠ gb895)); have n6_ := Aside0.mk ((by rw [hg]; exact Nat.ne_of_gt (blk_lt (g := gb894) (o := .cells #[.int .i64 a0_0, .int .i64 a0_1] 97 (0, 0)) zk) : gb895 ≠ gb894)); clear BK894; clear HB; have BK894 := n0_; have HB := n1_; have BK895 := n2_; have GW895 := n3_; have GE895 := n4_; have NB894_895 := n5_; have NB895_894 := n6_; clear n0_ n1_ n2_ n3_ n4_ n5_ n6_; clear hb hbox hg) | ((with_reducible refine gate_dst (N := 3) rfl ?_); refine box_event ?hg (N := 3) ?hd (cs := #[.int .i64 0, .int .i64 0]) (t := 26) ?hr ?_; (case hd => rfl); (case hg => rfl); (case hr => first | (go_simp; done) | (go_simp; rfl)); intro gb896 hg w4 hbox hb; have n0_ := Aside0.mk (blk_below (g := gb894) (o := .cells #[.int .i64 a0_0, .int .i64 a0_1] 97 (0, 0)) zk hb); have n1_ := Aside0.mk (blk_below (g := gb895) (o := .cells #[.int .i64 0, .int .i64 0] 26 (0, 0)) zk hb); have n2_ := Aside0.mk (below_step zb hb); have n3_ := Aside0.mk (hbox); have n4_ := Aside0.mk ((by rw [hg]; exact (below_size zb) : w.heap.size ≤ gb896)); have n5_ := Aside0.mk ((by rw [hg]; exact (below_size zb) : w.heap.size ≤ gb896)); have n6_ := Aside0.mk ((by rw [hg]; exact Nat.ne_of_lt (blk_lt (g := gb894) (o := .cells #[.int .i64 a0_0, .int .i64 a0_1] 97 (0, 0)) zk) : gb894 ≠ gb896)); have n7_ := Aside0.mk ((by rw [hg]; exact Nat.ne_of_gt (blk_lt (g := gb894) (o := .cells #[.int .i64 a0_0, .int .i64 a0_1] 97 (0, 0)) zk) : gb896 ≠ gb894)); have n8_ := Aside0.mk ((by rw [hg]; exact Nat.ne_of_lt (blk_lt (g := gb895) (o := .cells #[.int .i64 0, .int .i64 0] 26 (0, 0)) zk) : gb895 ≠ gb896)); have n9_ := Aside0.mk ((by rw [hg]; exact Nat.ne_of_gt (blk_lt (g := gb895) (o := .cells #[.int .i64 0, .int .i64 0] 26 (0, 0)) zk) : gb896 ≠ gb895)); clear BK894; clear BK895; clear HB; have BK894 := n0_; have BK895 := n1_; have HB := n2_; have BK896 := n3_; have GW896 := n4_; have GE896 := n5_; have NB894_896 := n6_; have NB896_894 := n7_; have NB895_896 := n8_; have NB896_895 := n9_; clear n0_ n1_ n2_ n3_ n4_ n5_ n6_ n7_ n8_ n9_; clear hb hbox hg; have hnb5 := NB894_895.out; have hnc5 := NB895_894.out; have hnb6 := NB894_896.out; have hnc6 := NB896_894.out; have hcz7_0 : w4.cell? ⟨gb894, 0, none⟩ = some (.int .i64 a0_0) := (blk_cell BK894.out 0).trans rfl; have hcz7_1 : w4.cell? ⟨gb894, 1, none⟩ = some (.int .i64 a0_1) := (blk_cell BK894.out 1).trans rfl; have hfz7_0 := blk_frozen BK894.out 0; have hfz7_1 := blk_frozen BK894.out 1; have hnb8 := NB896_895.out; have hnc8 := NB895_896.out; have hcz9_0 : w4.cell? ⟨gb896, 0, none⟩ = some (.int .i64 0) := (blk_cell BK896.out 0).trans rfl; have hcz9_1 : w4.cell? ⟨gb896, 1, none⟩ = some (.int .i64 0) := (blk_cell BK896.out 1).trans rfl; have hfz9_0 := blk_frozen BK896.out 0; have hfz9_1 := blk_frozen BK896.out 1; have hcz10_0 : w4.cell? ⟨gb895, 0, none⟩ = some (.int .i64 0) := (blk_cell BK895.out 0).trans rfl; have hcz10_1 : w4.cell? ⟨gb895, 1, none⟩ = some (.int .i64 0) := (blk_cell BK895.out 1).trans rfl; have hfz10_0 := blk_frozen BK895.out 0; have hfz10_1 := blk_frozen BK895.out 1))
 refine bodyPost_ret (results_cell_row rfl _ _ gb895 26 #[.int .i64 a0_0, .int .i64 a0_1] (0, 0) _ rfl (by (with_reducible repeat (first | refine blk_drewN ?_ _ | refine blk_drew ?_ | refine blk_alloc ?_ _)); refine blk_put (cs := #[.int .i64 a0_0, .int .i64 0]) ?_ 1 _ rfl; (with_reducible repeat (first | refine blk_drewN ?_ _ | refine blk_drew ?_ | refine blk_alloc ?_ _)); refine blk_put (cs := #[.int .i64 0, .int .i64 0]) ?_ 0 _ rfl; (with_reducible repeat (first | refine blk_drewN ?_ _ | refine blk_drew ?_ | refine blk_alloc ?_ _)); refine blk_far ?_ NB895_896.out _; (with_reducible repeat (first | refine blk_drewN ?_ _ | refine blk_drew ?_ | refine blk_alloc ?_ _)); refine blk_far ?_ NB895_896.out _; (with_reducible repeat (first | refine blk_drewN ?_ _ | refine blk_drew ?_ | refine blk_alloc ?_ _)); exact BK895.out) Try.underlying26 rfl (by kernel_rfl)) rfl ?_
 exact ⟨by first | rfl | (simp [errW_none, errW_some] <;> rfl) | (simp [*, errW_none, errW_some] <;> rfl), zb⟩
def laws_toPegS.l0 : Nat → List (S97) → List (S26) → Int → Option ((List (S26)))
 | 0, _, _, _ => none
 | k + 1, x0, x3, x4 => if x4 < (x0.length : Int) then (if 0 ≤ x4 then ((laws_toPeg.f ((rd_T97 x0 x4).f0) ((rd_T97 x0 x4).f1)).bind fun bt901 => (if x4 < (x3.length : Int) then (laws_toPegS.l0 k x0 (x3.set (x4 : Int).toNat (⟨bt901.1, bt901.2⟩ : S26)) (wrap64 (x4 + 1))) else (none))) else (none)) else (some x3)
def laws_toPegS.f (k : Nat) (l0 : List (S97)) : Option ((List (S26))) := if 0 ≤ (l0.length : Int) then (if ((l0.length : Int) : Int).toNat ≤ 17592186044416 then (laws_toPegS.l0 k l0 (List.replicate ((l0.length : Int) : Int).toNat z26) 0) else (none)) else (none)
set_option maxHeartbeats 8000000 in
set_option maxRecDepth 100000 in
theorem laws_toPegS.calls (k : Nat) (A0 : Option Addr) (c0 : Nat) (l0 : List (S97)) (r : List (S26)) (w : World) (hr0 : Kd.C k97 w A0 l0.length l0) (hc0 : l0.length ≤ c0) (h : laws_toPegS.f k l0 = some r) :
  Calls Try.prog 37 #[.slice A0 l0.length c0] w fun e w' => ∃ v0_ : Value, e = .returned (v0_) ∧ Kd.R k26 26 w' w.heap.size (fun _ => True) v0_ r ∧ Below w.heap.size w w' := by
 have hu97 := Try.underlying97
 have hu26 := Try.underlying26
 have HR0 := Aside0.mk hr0
 have HC0 := Aside0.mk hc0
 clear hr0 hc0
 have HB := Aside0.mk (Below.refl w.heap.size w)
 have H : (if 0 ≤ (l0.length : Int) then (if ((l0.length : Int) : Int).toNat ≤ 17592186044416 then (laws_toPegS.l0 k l0 (List.replicate ((l0.length : Int) : Int).toNat z26) 0) else (none)) else (none)) = some r := h
 clear h
 by_cases c2 : 0 ≤ (l0.length : Int)
 ·rw [if_pos c2] at H
  have c2b0 := eq_true c2
  have c2b1 : decide (0 ≤ (l0.length : Int)) = true := decide_eq_true c2
  clear c2
  by_cases c3 : ((l0.length : Int) : Int).toNat ≤ 17592186044416
  ·rw [if_pos c3] at H
   have c3b0 := eq_true c3
   have c3b1 : decide (((l0.length : Int) : Int).toNat ≤ 17592186044416) = true := decide_eq_true c3
   clear c3
   obtain ⟨y897, hy897⟩ : ∃ y_ : List (S26), y_ = (List.replicate ((l0.length : Int) : Int).toNat z26) := ⟨_, rfl⟩
   replace H : (laws_toPegS.l0 k l0 y897 0) = some r := by first | (rw [hy897]; with_reducible exact H) | (have H2_ := (Option.bind_some _ _).symm.trans H; rw [hy897]; with_reducible exact H2_) | (have H2_ := (Option.bind_some _ _).symm.trans H; with_reducible exact H2_) | with_reducible exact H | (rw [hy897]; exact H) | exact H
   have Ny897 := Aside0.mk hy897
   clear hy897
   have H' := Aside0.mk H
   clear H
   go_enter Try.func37, Try.ntmps37
   go_wp2_with (first | ((with_reducible refine gate_dst (N := 7) rfl ?_); refine Kd.R_make k26 _ 26 rfl (N := 7) rfl 24 _ _ rfl (l0.length : Int) rfl rfl Try.underlying24 (.agg #[(.int .i64 0), (.int .i64 0)]) 16 info26 rfl (by decide) (by omega) z26 (ok := fun _ => True) (okp := fun _ => True) (k26_mkM _ _ _ z26 ) (fun _ hk => hk) trivial (of_decide_eq_true (by first | (with_reducible assumption) | assumption)) (Nat.le_trans (Nat.mul_le_mul_right _ (of_decide_eq_true (by first | (with_reducible assumption) | assumption) : (l0.length : Int).toNat ≤ 17592186044416)) (by omega)) (Below.refl _ _) (Nat.le_refl _) ?_; intro v898 w4 ho5 hb hg_ hnew_; clear hg_ hnew_; (first | rw [← Ny897.out] at ho5 | (simp only [Int.reduceToNat] at ho5; rw [← Ny897.out] at ho5)); have n0_ := Aside0.mk (Kd.R_lower ho5 (below_size zb)); have n1_ := Aside0.mk (below_step zb hb); clear HB; have HO899 := n0_; have HB := n1_; clear n0_ n1_; clear hb ho5))
   go_loopg [4] k (fun kq v4 w' => ∃ (x3_1 : List (S26)) (x4_1 : Int), v4 = .int .i64 x4_1 ∧ Aside0 (laws_toPegS.l0 kq l0 x3_1 x4_1 = some r) ∧ Aside0 (kq ≤ k) ∧ Aside0 (Kd.R k26 26 w' w.heap.size (fun _ => True) v898 x3_1) ∧ Aside0 (Below w.heap.size w w'))
   case atStart => exact ⟨(y897), (0), (by first | rfl | (simp; done) | (simp [*]; done)), H', ⟨Nat.le_refl _⟩, ⟨by (with_reducible repeat (first | apply Kd.R_alloc | apply Kd.R_drewN | apply Kd.R_drew)); exact HO899.out⟩, ⟨zb⟩⟩
   case round =>
    clear H'
    try clear c2
    try clear c2b0
    try clear c2b1
    try clear p2
    try clear c3
    try clear c3b0
    try clear c3b1
    obtain ⟨x3_1, x4_1, rfl, HA, HK1, HO_3, HB⟩ := hrel
    cases gk with
    | zero => exact absurd HA.out (by simp [laws_toPegS.l0])
    | succ k1 =>
     have H := HA.out
     clear HA
     simp only [laws_toPegS.l0] at H
     by_cases c6 : x4_1 < (l0.length : Int)
     ·rw [if_pos c6] at H
      have c6b0 : decide (x4_1 < (l0.length : Int)) = true := decide_eq_true c6
      clear c6
      by_cases c7 : 0 ≤ x4_1
      ·rw [if_pos c7] at H
       have c7b0 : decide (0 ≤ x4_1) = true := decide_eq_true c7
       clear c7
       replace H := Option.bind_eq_some_iff.mp H
       obtain ⟨⟨t901, t902⟩, A80, H⟩ := H
       replace H : (if x4_1 < (x3_1.length : Int) then (laws_toPegS.l0 k1 l0 (x3_1.set (x4_1 : Int).toNat (⟨t901, t902⟩ : S26)) (wrap64 (x4_1 + 1))) else (none)) = some r := H
       have A8 := Aside0.mk A80
       clear A80
       by_cases c9 : x4_1 < (x3_1.length : Int)
       ·rw [if_pos c9] at H
        have c9b0 : decide (x4_1 < (x3_1.length : Int)) = true := decide_eq_true c9
        clear c9
        obtain ⟨y903, hy903⟩ : ∃ y_ : List (S26), y_ = (x3_1.set (x4_1 : Int).toNat (⟨t901, t902⟩ : S26)) := ⟨_, rfl⟩
        replace H : (laws_toPegS.l0 k1 l0 y903 (wrap64 (x4_1 + 1))) = some r := by first | (rw [hy903]; with_reducible exact H) | (have H2_ := (Option.bind_some _ _).symm.trans H; rw [hy903]; with_reducible exact H2_) | (have H2_ := (Option.bind_some _ _).symm.trans H; with_reducible exact H2_) | with_reducible exact H | (rw [hy903]; exact H) | exact H
        have Ny903 := Aside0.mk hy903
        clear hy903
        have H' := Aside0.mk H
        clear H
        have p900 : 0 ≤ (x4_1 : Int) := of_decide_eq_true (by first | (with_reducible assumption) | assumption)
        have q900 : x4_1 < (l0.length : Int) := of_decide_eq_true (by first | (with_reducible assumption) | assumption)
        obtain ⟨ad900, e900, hx900_0, hx900_1⟩ := at_T97 HR0.out x4_1 p900 q900
        cases e900
        replace hx900_0 := zc HB hx900_0
        replace hx900_1 := zc HB hx900_1
        replace p900 := eq_true p900
        replace q900 := eq_true q900
        go_wp2_with (first | ((with_reducible refine gate_callee (f := 114) rfl ?_); refine goesL_ (some 20) rfl rfl Try.func114 (by kernel_rfl) rfl #[.agg #[.int .i64 ((rd_T97 l0 x4_1).f0), .int .i64 ((rd_T97 l0 x4_1).f1)]] rfl zn ?_; (with_reducible refine (laws_toPeg.calls ((rd_T97 l0 x4_1).f0) ((rd_T97 l0 x4_1).f1) t901 t902 _ A8.out).mono ?_); rintro e w11 ⟨rfl, hb⟩; refine ⟨_, rfl, ?_⟩; have n0_ := Aside0.mk (Kd.R_below (by (with_reducible repeat (first | apply Kd.R_alloc | apply Kd.R_drewN | apply Kd.R_drew)); exact HO_3.out) hb); have n1_ := Aside0.mk (below_step zb hb); clear HO_3; clear HB; have HO_3 := n0_; have HB := n1_; clear n0_ n1_; (try clear hb); (try clear hb2); (try clear hk); (try clear hi); have p10 : 0 ≤ (x4_1 : Int) := of_decide_eq_true (by first | (with_reducible assumption) | assumption); have q10 : (x4_1 : Int) < ((x3_1.length : Int) : Int) := of_decide_eq_true (by first | (with_reducible assumption) | assumption); obtain ⟨go10, co10, eo10, gb10, gl10, cl10, HG10⟩ := Kd.R_form HO_3.out (by omega); (first | cases eo10 | (injection eo10 with ea_ en_ ec_; (first | subst ea_ | (injection ea_ with ea_; subst ea_)); subst ec_; clear en_)); have GB10 := Aside0.mk gb10; have GG10 := Aside0.mk HG10; clear gb10 gl10 HG10; obtain ⟨ce10, hcl10, hM10, hcc10, hfr10⟩ := Kd.R_elem HO_3.out z26 (x4_1 : Int) p10 q10; obtain rfl := k26_openM hM10; have hx10_0 : w11.cell? ⟨go10, (x4_1 : Int).toNat * 2, none⟩ = some (.int .i64 ((rd_T26 x3_1 x4_1).f0)) := hcc10 0 _ rfl; have hx10_1 : w11.cell? ⟨go10, (x4_1 : Int).toNat * 2 + 1, none⟩ = some (.int .i64 ((rd_T26 x3_1 x4_1).f1)) := hcc10 1 _ rfl; have hf10_0 : w11.frozen? ⟨go10, (x4_1 : Int).toNat * 2, none⟩ = false := hfr10 0; have hf10_1 : w11.frozen? ⟨go10, (x4_1 : Int).toNat * 2 + 1, none⟩ = false := hfr10 1; clear hcl10 hcc10 hfr10 hM10; replace p10 := eq_true p10; replace q10 := eq_true q10; have HX12 := Aside0.mk (show Kd.R k26 26 w11 w.heap.size (fun _ => True) (.slice (some ⟨go10, 0, none⟩) x3_1.length co10) x3_1 from (by (with_reducible repeat (first | apply Kd.R_alloc | apply Kd.R_drewN | apply Kd.R_drew)); exact HO_3.out)); obtain ⟨ce12, hcl12, hM12, hcc12, hfr12⟩ := Kd.R_elem HX12.out z26 (x4_1 : Int) (of_decide_eq_true (by first | (with_reducible assumption) | assumption)) (by have h_ : (x4_1 : Int) < ((x3_1.length : Int) : Int) := of_decide_eq_true (by first | (with_reducible assumption) | assumption); first | exact h_ | (have e_ := (Kd.R_reads' HO_3.out).1; omega) | simpa using h_); obtain rfl := k26_openM hM12; have HP12 := Kd.R_seg HX12.out (x4_1 : Int) (of_decide_eq_true (by first | (with_reducible assumption) | assumption)) (by have h_ : (x4_1 : Int) < ((x3_1.length : Int) : Int) := of_decide_eq_true (by first | (with_reducible assumption) | assumption); first | exact h_ | (have e_ := (Kd.R_reads' HO_3.out).1; omega) | simpa using h_) (seg := [.int .i64 t901, .int .i64 t902]) (j := 0) hcl12 hcc12 (show 2 ≤ 2 from by decide) (x' := (⟨t901, t902⟩ : S26)) (k26_mkM _ _ _ (⟨t901, t902⟩ : S26) ) (fun _ hk => hk); have hx12_0 := hcc12 0 _ rfl; (try simp only [show (k26).sz = 2 from rfl, Nat.mul_one, Nat.add_zero] at hx12_0); have hf12_0 := hfr12 0; (try simp only [show (k26).sz = 2 from rfl, Nat.mul_one, Nat.add_zero] at hf12_0); have hx12_1 := hcc12 1 _ rfl; (try simp only [show (k26).sz = 2 from rfl, Nat.mul_one, Nat.add_zero] at hx12_1); have hf12_1 := hfr12 1; (try simp only [show (k26).sz = 2 from rfl, Nat.mul_one, Nat.add_zero] at hf12_1); clear hcl12 hcc12 hfr12 hM12) | ((with_reducible refine gate_store (t := 26) (p := 21) rfl ?_); refine store_event (t := 26) (p := 21) (v := ?vo_w13) (w1 := ((w11.setCell ⟨go10, (x4_1 : Int).toNat * 2, none⟩ (.int .i64 t901)).setCell ⟨go10, (x4_1 : Int).toNat * 2 + 1, none⟩ (.int .i64 t902))) ?hg ?ho ?hn ?hr ?_; (case ho => rfl); (case hg => rfl); (case hn => rfl); (case hr => first | (go_simp; done) | (go_simp; rfl)); intro w13 hw; have hg : w11.grownBy w13 (some go10) := (by rw [hw]; exact HP12.2); have hp_ : Kd.R k26 26 w13 w.heap.size (fun _ => True) (.slice (some ⟨go10, 0, none⟩) x3_1.length co10) y903 := (by rw [hw, Ny903.out]; exact HP12.1); clear HP12; have n0_ := Aside0.mk (hp_); have n1_ := Aside0.mk ((by rw [hw]; exact below_set (below_set (HB.out) GB10.out) GB10.out : Below w.heap.size w w13)); clear HO_3; clear HB; have HO_3 := n0_; have HB := n1_; clear n0_ n1_; clear hg hw hp_))
        go_roundg k1
        case measure => have := HK1.out; omega
        case rel => exact ⟨(y903), (wrap64 (x4_1 + 1)), (by first | rfl | (simp; done) | (simp [*]; done)), H', ⟨by have := HK1.out; omega⟩, ⟨by (with_reducible repeat (first | apply Kd.R_alloc | apply Kd.R_drewN | apply Kd.R_drew)); exact HO_3.out⟩, ⟨zb⟩⟩
       ·rw [if_neg c9] at H
        exact absurd H (by simp)
      ·rw [if_neg c7] at H
       exact absurd H (by simp)
     ·rw [if_neg c6] at H
      have c6b0 : decide (x4_1 < (l0.length : Int)) = false := decide_eq_false c6
      clear c6
      obtain rfl := Option.some.inj H
      go_wp2
      go_ret
      exact ⟨_, by first | rfl | (simp [errW_none, errW_some] <;> rfl) | (simp [*, errW_none, errW_some] <;> rfl), by (with_reducible repeat (first | apply Kd.R_alloc | apply Kd.R_drewN | apply Kd.R_drew)); exact HO_3.out, zb⟩
  ·rw [if_neg c3] at H
   exact absurd H (by simp)
 ·rw [if_neg c2] at H
  exact absurd H (by simp)
end Go.Proofs.Ytphpdfcblchpnaa.Q
namespace Go.Proofs.Ytphpdfcblchpnaa.Q
open Go.RowKit Go.Proofs.YtphpdfcblchpnaaW.PrintWords Go.Proofs.YtphpdfcblchpnaaW.PrintLast Go.Proofs.YtphpdfcblchpnaaW.PrintMore
attribute [local go_sem] max2_int min2_int max_two min_two max_three min_three max_four min_four   -- for this text's walks alone
set_option linter.unusedVariables false
set_option linter.unusedSimpArgs false
def laws_eqPeg.f (a0_0 : Int) (a0_1 : Int) (a1_0 : Int) (a1_1 : Int) : Option (Bool) := if a0_0 = a1_0 then (if a0_1 = a1_1 then (some true) else (some false)) else (some false)
set_option maxHeartbeats 8000000 in
set_option maxRecDepth 100000 in
theorem laws_eqPeg.calls (a0_0 : Int) (a0_1 : Int) (a1_0 : Int) (a1_1 : Int) (r : Bool) (w : World) (h : laws_eqPeg.f a0_0 a0_1 a1_0 a1_1 = some r) :
  Calls Try.prog 160 #[.agg #[.int .i64 a0_0, .int .i64 a0_1], .agg #[.int .i64 a1_0, .int .i64 a1_1]] w fun e w' => e = .returned (.bool r) ∧ Below w.heap.size w w' := by
 have hu26 := Try.underlying26
 have HB := Aside0.mk (Below.refl w.heap.size w)
 have H : (if a0_0 = a1_0 then (if a0_1 = a1_1 then (some true) else (some false)) else (some false)) = some r := h
 clear h
 by_cases c3 : a0_0 = a1_0
 ·rw [if_pos c3] at H
  have c3b0 : (a0_0 == a1_0) = true := beq_iff_eq.mpr c3
  have c3b1 : (a0_0 != a1_0) = false := bne_eq_false_iff_eq.mpr c3
  clear c3
  by_cases c4 : a0_1 = a1_1
  ·rw [if_pos c4] at H
   have c4b0 : (a0_1 == a1_1) = true := beq_iff_eq.mpr c4
   have c4b1 : (a0_1 != a1_1) = false := bne_eq_false_iff_eq.mpr c4
   clear c4
   obtain rfl := Option.some.inj H
   go_enter Try.func160, Try.ntmps160
   go_wp2_with (first | ((with_reducible refine gate_dst (N := 2) rfl ?_); refine box_event ?hg (N := 2) ?hd (cs := #[.int .i64 a0_0, .int .i64 a0_1]) (t := 26) ?hr ?_; (case hd => rfl); (case hg => rfl); (case hr => first | (go_simp; done) | (go_simp; rfl)); intro gb1008 hg w5 hbox hb; have n0_ := Aside0.mk (below_step zb hb); have n1_ := Aside0.mk (hbox); have n2_ := Aside0.mk ((by rw [hg]; exact (below_size zb) : w.heap.size ≤ gb1008)); have n3_ := Aside0.mk ((by rw [hg]; exact (below_size zb) : w.heap.size ≤ gb1008)); clear HB; have HB := n0_; have BK1008 := n1_; have GW1008 := n2_; have GE1008 := n3_; clear n0_ n1_ n2_ n3_; clear hb hbox hg) | ((with_reducible refine gate_dst (N := 3) rfl ?_); refine box_event ?hg (N := 3) ?hd (cs := #[.int .i64 a1_0, .int .i64 a1_1]) (t := 26) ?hr ?_; (case hd => rfl); (case hg => rfl); (case hr => first | (go_simp; done) | (go_simp; rfl)); intro gb1009 hg w6 hbox hb; have n0_ := Aside0.mk (blk_below (g := gb1008) (o := .cells #[.int .i64 a0_0, .int .i64 a0_1] 26 (0, 0)) zk hb); have n1_ := Aside0.mk (below_step zb hb); have n2_ := Aside0.mk (hbox); have n3_ := Aside0.mk ((by rw [hg]; exact (below_size zb) : w.heap.size ≤ gb1009)); have n4_ := Aside0.mk ((by rw [hg]; exact (below_size zb) : w.heap.size ≤ gb1009)); have n5_ := Aside0.mk ((by rw [hg]; exact Nat.ne_of_lt (blk_lt (g := gb1008) (o := .cells #[.int .i64 a0_0, .int .i64 a0_1] 26 (0, 0)) zk) : gb1008 ≠ gb1009)); have n6_ := Aside0.mk ((by rw [hg]; exact Nat.ne_of_gt (blk_lt (g := gb1008) (o := .cells #[.int .i64 a0_0, .int .i64 a0_1] 26 (0, 0)) zk) : gb1009 ≠ gb1008)); clear BK1008; clear HB; have BK1008 := n0_; have HB := n1_; have BK1009 := n2_; have GW1009 := n3_; have GE1009 := n4_; have NB1008_1009 := n5_; have NB1009_1008 := n6_; clear n0_ n1_ n2_ n3_ n4_ n5_ n6_; clear hb hbox hg; have hnb7 := NB1008_1009.out; have hnc7 := NB1009_1008.out; have hcz8_0 : w6.cell? ⟨gb1008, 0, none⟩ = some (.int .i64 a0_0) := (blk_cell BK1008.out 0).trans rfl; have hcz8_1 : w6.cell? ⟨gb1008, 1, none⟩ = some (.int .i64 a0_1) := (blk_cell BK1008.out 1).trans rfl; have hfz8_0 := blk_frozen BK1008.out 0; have hfz8_1 := blk_frozen BK1008.out 1; have hcz9_0 : w6.cell? ⟨gb1009, 0, none⟩ = some (.int .i64 a1_0) := (blk_cell BK1009.out 0).trans rfl; have hcz9_1 : w6.cell? ⟨gb1009, 1, none⟩ = some (.int .i64 a1_1) := (blk_cell BK1009.out 1).trans rfl; have hfz9_0 := blk_frozen BK1009.out 0; have hfz9_1 := blk_frozen BK1009.out 1))
   go_ret
   exact ⟨by first | rfl | (simp [errW_none, errW_some] <;> rfl) | (simp [*, errW_none, errW_some] <;> rfl), zb⟩
  ·rw [if_neg c4] at H
   have c4b0 : (a0_1 == a1_1) = false := beq_eq_false_iff_ne.mpr c4
   have c4b1 : (a0_1 != a1_1) = true := bne_iff_ne.mpr c4
   obtain rfl := Option.some.inj H
   go_enter Try.func160, Try.ntmps160
   go_wp2_with (first | ((with_reducible refine gate_dst (N := 2) rfl ?_); refine box_event ?hg (N := 2) ?hd (cs := #[.int .i64 a0_0, .int .i64 a0_1]) (t := 26) ?hr ?_; (case hd => rfl); (case hg => rfl); (case hr => first | (go_simp; done) | (go_simp; rfl)); intro gb1008 hg w10 hbox hb; have n0_ := Aside0.mk (below_step zb hb); have n1_ := Aside0.mk (hbox); have n2_ := Aside0.mk ((by rw [hg]; exact (below_size zb) : w.heap.size ≤ gb1008)); have n3_ := Aside0.mk ((by rw [hg]; exact (below_size zb) : w.heap.size ≤ gb1008)); clear HB; have HB := n0_; have BK1008 := n1_; have GW1008 := n2_; have GE1008 := n3_; clear n0_ n1_ n2_ n3_; clear hb hbox hg) | ((with_reducible refine gate_dst (N := 3) rfl ?_); refine box_event ?hg (N := 3) ?hd (cs := #[.int .i64 a1_0, .int .i64 a1_1]) (t := 26) ?hr ?_; (case hd => rfl); (case hg => rfl); (case hr => first | (go_simp; done) | (go_simp; rfl)); intro gb1009 hg w11 hbox hb; have n0_ := Aside0.mk (blk_below (g := gb1008) (o := .cells #[.int .i64 a0_0, .int .i64 a0_1] 26 (0, 0)) zk hb); have n1_ := Aside0.mk (below_step zb hb); have n2_ := Aside0.mk (hbox); have n3_ := Aside0.mk ((by rw [hg]; exact (below_size zb) : w.heap.size ≤ gb1009)); have n4_ := Aside0.mk ((by rw [hg]; exact (below_size zb) : w.heap.size ≤ gb1009)); have n5_ := Aside0.mk ((by rw [hg]; exact Nat.ne_of_lt (blk_lt (g := gb1008) (o := .cells #[.int .i64 a0_0, .int .i64 a0_1] 26 (0, 0)) zk) : gb1008 ≠ gb1009)); have n6_ := Aside0.mk ((by rw [hg]; exact Nat.ne_of_gt (blk_lt (g := gb1008) (o := .cells #[.int .i64 a0_0, .int .i64 a0_1] 26 (0, 0)) zk) : gb1009 ≠ gb1008)); clear BK1008; clear HB; have BK1008 := n0_; have HB := n1_; have BK1009 := n2_; have GW1009 := n3_; have GE1009 := n4_; have NB1008_1009 := n5_; have NB1009_1008 := n6_; clear n0_ n1_ n2_ n3_ n4_ n5_ n6_; clear hb hbox hg; have hnb12 := NB1008_1009.out; have hnc12 := NB1009_1008.out; have hcz13_0 : w11.cell? ⟨gb1008, 0, none⟩ = some (.int .i64 a0_0) := (blk_cell BK1008.out 0).trans rfl; have hcz13_1 : w11.cell? ⟨gb1008, 1, none⟩ = some (.int .i64 a0_1) := (blk_cell BK1008.out 1).trans rfl; have hfz13_0 := blk_frozen BK1008.out 0; have hfz13_1 := blk_frozen BK1008.out 1; have hcz14_0 : w11.cell? ⟨gb1009, 0, none⟩ = some (.int .i64 a1_0) := (blk_cell BK1009.out 0).trans rfl; have hcz14_1 : w11.cell? ⟨gb1009, 1, none⟩ = some (.int .i64 a1_1) := (blk_cell BK1009.out 1).trans rfl; have hfz14_0 := blk_frozen BK1009.out 0; have hfz14_1 := blk_frozen BK1009.out 1))
   go_ret
   exact ⟨by first | rfl | (simp [errW_none, errW_some] <;> rfl) | (simp [*, errW_none, errW_some] <;> rfl), zb⟩
 ·rw [if_neg c3] at H
  have c3b0 : (a0_0 == a1_0) = false := beq_eq_false_iff_ne.mpr c3
  have c3b1 : (a0_0 != a1_0) = true := bne_iff_ne.mpr c3
  obtain rfl := Option.some.inj H
  go_enter Try.func160, Try.ntmps160
  go_wp2_with (first | ((with_reducible refine gate_dst (N := 2) rfl ?_); refine box_event ?hg (N := 2) ?hd (cs := #[.int .i64 a0_0, .int .i64 a0_1]) (t := 26) ?hr ?_; (case hd => rfl); (case hg => rfl); (case hr => first | (go_simp; done) | (go_simp; rfl)); intro gb1008 hg w15 hbox hb; have n0_ := Aside0.mk (below_step zb hb); have n1_ := Aside0.mk (hbox); have n2_ := Aside0.mk ((by rw [hg]; exact (below_size zb) : w.heap.size ≤ gb1008)); have n3_ := Aside0.mk ((by rw [hg]; exact (below_size zb) : w.heap.size ≤ gb1008)); clear HB; have HB := n0_; have BK1008 := n1_; have GW1008 := n2_; have GE1008 := n3_; clear n0_ n1_ n2_ n3_; clear hb hbox hg) | ((with_reducible refine gate_dst (N := 3) rfl ?_); refine box_event ?hg (N := 3) ?hd (cs := #[.int .i64 a1_0, .int .i64 a1_1]) (t := 26) ?hr ?_; (case hd => rfl); (case hg => rfl); (case hr => first | (go_simp; done) | (go_simp; rfl)); intro gb1009 hg w16 hbox hb; have n0_ := Aside0.mk (blk_below (g := gb1008) (o := .cells #[.int .i64 a0_0, .int .i64 a0_1] 26 (0, 0)) zk hb); have n1_ := Aside0.mk (below_step zb hb); have n2_ := Aside0.mk (hbox); have n3_ := Aside0.mk ((by rw [hg]; exact (below_size zb) : w.heap.size ≤ gb1009)); have n4_ := Aside0.mk ((by rw [hg]; exact (below_size zb) : w.heap.size ≤ gb1009)); have n5_ := Aside0.mk ((by rw [hg]; exact Nat.ne_of_lt (blk_lt (g := gb1008) (o := .cells #[.int .i64 a0_0, .int .i64 a0_1] 26 (0, 0)) zk) : gb1008 ≠ gb1009)); have n6_ := Aside0.mk ((by rw [hg]; exact Nat.ne_of_gt (blk_lt (g := gb1008) (o := .cells #[.int .i64 a0_0, .int .i64 a0_1] 26 (0, 0)) zk) : gb1009 ≠ gb1008)); clear BK1008; clear HB; have BK1008 := n0_; have HB := n1_; have BK1009 := n2_; have GW1009 := n3_; have GE1009 := n4_; have NB1008_1009 := n5_; have NB1009_1008 := n6_; clear n0_ n1_ n2_ n3_ n4_ n5_ n6_; clear hb hbox hg; have hnb17 := NB1008_1009.out; have hnc17 := NB1009_1008.out; have hcz18_0 : w16.cell? ⟨gb1008, 0, none⟩ = some (.int .i64 a0_0) := (blk_cell BK1008.out 0).trans rfl; have hcz18_1 : w16.cell? ⟨gb1008, 1, none⟩ = some (.int .i64 a0_1) := (blk_cell BK1008.out 1).trans rfl; have hfz18_0 := blk_frozen BK1008.out 0; have hfz18_1 := blk_frozen BK1008.out 1; have hcz19_0 : w16.cell? ⟨gb1009, 0, none⟩ = some (.int .i64 a1_0) := (blk_cell BK1009.out 0).trans rfl; have hcz19_1 : w16.cell? ⟨gb1009, 1, none⟩ = some (.int .i64 a1_1) := (blk_cell BK1009.out 1).trans rfl; have hfz19_0 := blk_frozen BK1009.out 0; have hfz19_1 := blk_frozen BK1009.out 1))
  go_ret
  exact ⟨by first | rfl | (simp [errW_none, errW_some] <;> rfl) | (simp [*, errW_none, errW_some] <;> rfl), zb⟩
end Go.Proofs.Ytphpdfcblchpnaa.Q
namespace Go.Proofs.Ytphpdfcblchpnaa.Q
open Go.RowKit Go.Proofs.YtphpdfcblchpnaaW.PrintWords Go.Proofs.YtphpdfcblchpnaaW.PrintLast Go.Proofs.YtphpdfcblchpnaaW.PrintMore
attribute [local go_sem] max2_int min2_int max_two min_two max_three min_three max_four min_four   -- for this text's walks alone
set_option linter.unusedVariables false
set_option linter.unusedSimpArgs false
def laws_eqPegS.l0 : Nat → List (S26) → List (S26) → Int → Option (Bool)
 | 0, _, _, _ => none
 | k + 1, x0, x1, x5 => if x5 < (x0.length : Int) then (if 0 ≤ x5 then (if x5 < (x1.length : Int) then ((laws_eqPeg.f ((rd_T26 x0 x5).f0) ((rd_T26 x0 x5).f1) ((rd_T26 x1 x5).f0) ((rd_T26 x1 x5).f1)).bind fun t1012 => (if t1012 = true then (laws_eqPegS.l0 k x0 x1 (wrap64 (x5 + 1))) else (some false))) else (none)) else (none)) else (some true)
def laws_eqPegS.f (k : Nat) (l0 : List (S26)) (l1 : List (S26)) : Option (Bool) := if (l0.length : Int) = (l1.length : Int) then (laws_eqPegS.l0 k l0 l1 0) else (some false)
def laws_eqPegS.T6 : Bool × List (List Nat × List Nat) := (true, [([], []), ([], []), ([0, 1], [0, 1]), ([2], [2]), ([], []), ([], []), ([4, 5], [4, 5]), ([6], [6]), ([3, 7], [3, 7]), ([8], [8])])
def laws_eqPegS.B6 : List Nat := [0, 0, 3, 7, 0, 0, 48, 112, 255, 511]
theorem laws_eqPegS.tab6 : rtab .any (opsOf Try.f39 6) = laws_eqPegS.T6 := by kernel_rfl
theorem laws_eqPegS.bits6 : waitsOk laws_eqPegS.T6.2 laws_eqPegS.B6 = true := by kernel_rfl
set_option maxHeartbeats 8000000 in
set_option maxRecDepth 100000 in
theorem laws_eqPegS.calls (k : Nat) (A0 : Option Addr) (c0 : Nat) (l0 : List (S26)) (A1 : Option Addr) (c1 : Nat) (l1 : List (S26)) (r : Bool) (w : World) (hr0 : Kd.C k26 w A0 l0.length l0) (hc0 : l0.length ≤ c0) (hr1 : Kd.C k26 w A1 l1.length l1) (hc1 : l1.length ≤ c1) (h : laws_eqPegS.f k l0 l1 = some r) :
  Calls Try.prog 39 #[.slice A0 l0.length c0, .slice A1 l1.length c1] w fun e w' => e = .returned (.bool r) ∧ Below w.heap.size w w' := by
 have hu26 := Try.underlying26
 have HR0 := Aside0.mk hr0
 have HC0 := Aside0.mk hc0
 clear hr0 hc0
 have HR1 := Aside0.mk hr1
 have HC1 := Aside0.mk hc1
 clear hr1 hc1
 have HB := Aside0.mk (Below.refl w.heap.size w)
 have H : (if (l0.length : Int) = (l1.length : Int) then (laws_eqPegS.l0 k l0 l1 0) else (some false)) = some r := h
 clear h
 by_cases c3 : (l0.length : Int) = (l1.length : Int)
 ·rw [if_pos c3] at H
  have c3b0 : ((l0.length : Int) == (l1.length : Int)) = true := beq_iff_eq.mpr c3
  have c3b1 : ((l0.length : Int) != (l1.length : Int)) = false := bne_eq_false_iff_eq.mpr c3
  have c3b2 : (l0.length == l1.length) = true := by first | simpa using c3 | (simp at c3 ⊢; omega)
  clear c3
  have H' := Aside0.mk H
  clear H
  go_enter Try.func39, Try.ntmps39
  go_wp2
  go_loopg [5] k (fun kq v5 w' => ∃ (x5_1 : Int), v5 = .int .i64 x5_1 ∧ Aside0 (laws_eqPegS.l0 kq l0 l1 x5_1 = some r) ∧ Aside0 (kq ≤ k) ∧ Aside0 (Below w.heap.size w w'))
  case atStart => exact ⟨(0), (by first | rfl | (simp; done) | (simp [*]; done)), H', ⟨Nat.le_refl _⟩, ⟨zb⟩⟩
  case round =>
   clear H'
   try clear c1
   try clear p2
   try clear c3
   try clear c3b0
   try clear c3b1
   try clear c3b2
   obtain ⟨x5_1, rfl, HA, HK1, HB⟩ := hrel
   cases gk with
   | zero => exact absurd HA.out (by simp [laws_eqPegS.l0])
   | succ k1 =>
    have H := HA.out
    clear HA
    simp only [laws_eqPegS.l0] at H
    by_cases c4 : x5_1 < (l0.length : Int)
    ·rw [if_pos c4] at H
     have c4b0 : decide (x5_1 < (l0.length : Int)) = true := decide_eq_true c4
     clear c4
     by_cases c5 : 0 ≤ x5_1
     ·rw [if_pos c5] at H
      have c5b0 : decide (0 ≤ x5_1) = true := decide_eq_true c5
      clear c5
      by_cases c6 : x5_1 < (l1.length : Int)
      ·rw [if_pos c6] at H
       have c6b0 : decide (x5_1 < (l1.length : Int)) = true := decide_eq_true c6
       clear c6
       replace H := Option.bind_eq_some_iff.mp H
       obtain ⟨t1012, A70, H⟩ := H
       replace H : (if t1012 = true then (laws_eqPegS.l0 k1 l0 l1 (wrap64 (x5_1 + 1))) else (some false)) = some r := H
       have A7 := Aside0.mk A70
       clear A70
       by_cases c8 : t1012 = true
       ·subst c8
        have H1 : (laws_eqPegS.l0 k1 l0 l1 (wrap64 (x5_1 + 1))) = some r := by rw [if_pos rfl] at H; exact H
        clear H
        have H := H1
        clear H1
        have H' := Aside0.mk H
        clear H
        try go_wp2
        have n0_ := Aside0.mk (below_drew1 HB.out)
        clear HB
        have HB := n0_
        clear n0_
        have p1010 : 0 ≤ (x5_1 : Int) := of_decide_eq_true (by first | (with_reducible assumption) | assumption)
        have q1010 : x5_1 < (l0.length : Int) := of_decide_eq_true (by first | (with_reducible assumption) | assumption)
        obtain ⟨ad1010, e1010, hx1010_0, hx1010_1⟩ := at_T26 HR0.out x5_1 p1010 q1010
        have hw1010_1 := hx1010_1
        have hw1010_0 := hx1010_0
        cases e1010
        replace hx1010_0 := zc HB hx1010_0
        replace hx1010_1 := zc HB hx1010_1
        replace p1010 := eq_true p1010
        replace q1010 := eq_true q1010
        have p1011 : 0 ≤ (x5_1 : Int) := of_decide_eq_true (by first | (with_reducible assumption) | assumption)
        have q1011 : x5_1 < (l1.length : Int) := of_decide_eq_true (by first | (with_reducible assumption) | assumption)
        obtain ⟨ad1011, e1011, hx1011_0, hx1011_1⟩ := at_T26 HR1.out x5_1 p1011 q1011
        have hw1011_1 := hx1011_1
        have hw1011_0 := hx1011_0
        cases e1011
        replace hx1011_0 := zc HB hx1011_0
        replace hx1011_1 := zc HB hx1011_1
        replace p1011 := eq_true p1011
        replace q1011 := eq_true q1011
        refine start_ (n := 10) (S := fun w' => w'.cell? (ad1010.add ((x5_1).toNat * 2)) = some (.int .i64 ((rd_T26 l0 x5_1).f0)) ∧ w'.cell? ⟨(ad1010.add ((x5_1).toNat * 2)).block, (ad1010.add ((x5_1).toNat * 2)).off + 1, none⟩ = some (.int .i64 ((rd_T26 l0 x5_1).f1)) ∧ w'.cell? (ad1011.add ((x5_1).toNat * 2)) = some (.int .i64 ((rd_T26 l1 x5_1).f0)) ∧ w'.cell? ⟨(ad1011.add ((x5_1).toNat * 2)).block, (ad1011.add ((x5_1).toNat * 2)).off + 1, none⟩ = some (.int .i64 ((rd_T26 l1 x5_1).f1))) (ds := []) (zl 10 0) (by kernel_rfl) rfl rfl ⟨(zc HB hw1010_0), (zc HB hw1010_1), (zc HB hw1011_0), (zc HB hw1011_1)⟩ (fun hHeld => ?_); refine with_tabW laws_eqPegS.tab6 laws_eqPegS.bits6 (fun HT_ HW_ => ?_)
        generalize wr.drew = w9 at HB hx1010_0 hx1010_1 hx1011_0 hx1011_1 hHeld ⊢
        refine zp 0 17 10 1 HT_ ?_
        refine zp 1 18 10 3 HT_ ?_
        refine zp 2 19 10 7 HT_ ?_
        refine zp 4 21 10 23 HT_ ?_
        refine zp 5 22 10 55 HT_ ?_
        refine zp 6 23 10 119 HT_ ?_
        refine take_ (i := 3) (N := some 20) (v := ?_) (a' := ?_) (zl 10 127) rfl rfl (take_ofW HT_.out HW_.out (by kernel_rfl)) (fun _ _ _ h => h) (Or.inl ⟨by rfl, ?_⟩) hHeld ?_ ?_
        rotate_left
        ·rintro w' ⟨s0, s1, s2, s3⟩
         go_simp
         with_reducible rfl
        rotate_left
        ·exact zs
        refine take_ (i := 7) (N := some 24) (v := ?_) (a' := ?_) (zl 10 255) rfl rfl (take_ofW HT_.out HW_.out (by kernel_rfl)) (fun _ _ _ h => h) (Or.inl ⟨by rfl, ?_⟩) hHeld ?_ ?_
        rotate_left
        ·rintro w' ⟨s0, s1, s2, s3⟩
         go_simp
         with_reducible rfl
        rotate_left
        ·exact zs
        refine one_ (i := 8) (N := some 25) (zl 10 511) rfl rfl (one_of HT_.out (by kernel_rfl)) (by decide) (fun K hK => ?_)
        refine goes_ Try.func160 (by kernel_rfl) rfl #[.agg #[.int .i64 ((rd_T26 l0 x5_1).f0), .int .i64 ((rd_T26 l0 x5_1).f1)], .agg #[.int .i64 ((rd_T26 l1 x5_1).f0), .int .i64 ((rd_T26 l1 x5_1).f1)]] (by rfl) rfl rfl zn ?_
        with_reducible refine (laws_eqPeg.calls ((rd_T26 l0 x5_1).f0) ((rd_T26 l0 x5_1).f1) ((rd_T26 l1 x5_1).f0) ((rd_T26 l1 x5_1).f1) true _ A7.out).mono ?_
        rintro e w10 ⟨rfl, hb⟩
        refine ⟨_, rfl, ?_⟩
        have n0_ := Aside0.mk (below_step zb hb)
        clear HB
        have HB := n0_
        clear n0_
        (try clear hb)
        (try clear hb2)
        (try clear hk)
        (try clear hi)
        refine hK.out _ _ ⟨(zc HB hw1010_0), (zc HB hw1010_1), (zc HB hw1011_0), (zc HB hw1011_1)⟩ (fun hHeld => ?_)
        clear hK K
        refine norm_ (a' := ?_) ?_ ?_
        rotate_left
        ·show Act.put _ (some 25) _ = _
         exact zs
        refine zp 9 26 10 1023 HT_ ?_
        refine done_ (done_of HT_.out (by kernel_rfl)) ?_
        try go_wp2
        go_roundg k1
        case measure => have := HK1.out; omega
        case rel => exact ⟨(wrap64 (x5_1 + 1)), (by first | rfl | (simp; done) | (simp [*]; done)), H', ⟨by have := HK1.out; omega⟩, ⟨zb⟩⟩
       ·replace c8 := Bool.eq_false_iff.mpr c8
        subst c8
        have H1 : (some false) = some r := by rw [if_neg (show ¬ (false = true) by decide)] at H; exact H
        clear H
        have H := H1
        clear H1
        obtain rfl := Option.some.inj H
        try go_wp2
        have n0_ := Aside0.mk (below_drew1 HB.out)
        clear HB
        have HB := n0_
        clear n0_
        have p1010 : 0 ≤ (x5_1 : Int) := of_decide_eq_true (by first | (with_reducible assumption) | assumption)
        have q1010 : x5_1 < (l0.length : Int) := of_decide_eq_true (by first | (with_reducible assumption) | assumption)
        obtain ⟨ad1010, e1010, hx1010_0, hx1010_1⟩ := at_T26 HR0.out x5_1 p1010 q1010
        have hw1010_1 := hx1010_1
        have hw1010_0 := hx1010_0
        cases e1010
        replace hx1010_0 := zc HB hx1010_0
        replace hx1010_1 := zc HB hx1010_1
        replace p1010 := eq_true p1010
        replace q1010 := eq_true q1010
        have p1011 : 0 ≤ (x5_1 : Int) := of_decide_eq_true (by first | (with_reducible assumption) | assumption)
        have q1011 : x5_1 < (l1.length : Int) := of_decide_eq_true (by first | (with_reducible assumption) | assumption)
        obtain ⟨ad1011, e1011, hx1011_0, hx1011_1⟩ := at_T26 HR1.out x5_1 p1011 q1011
        have hw1011_1 := hx1011_1
        have hw1011_0 := hx1011_0
        cases e1011
        replace hx1011_0 := zc HB hx1011_0
        replace hx1011_1 := zc HB hx1011_1
        replace p1011 := eq_true p1011
        replace q1011 := eq_true q1011
        refine start_ (n := 10) (S := fun w' => w'.cell? (ad1010.add ((x5_1).toNat * 2)) = some (.int .i64 ((rd_T26 l0 x5_1).f0)) ∧ w'.cell? ⟨(ad1010.add ((x5_1).toNat * 2)).block, (ad1010.add ((x5_1).toNat * 2)).off + 1, none⟩ = some (.int .i64 ((rd_T26 l0 x5_1).f1)) ∧ w'.cell? (ad1011.add ((x5_1).toNat * 2)) = some (.int .i64 ((rd_T26 l1 x5_1).f0)) ∧ w'.cell? ⟨(ad1011.add ((x5_1).toNat * 2)).block, (ad1011.add ((x5_1).toNat * 2)).off + 1, none⟩ = some (.int .i64 ((rd_T26 l1 x5_1).f1))) (ds := []) (zl 10 0) (by kernel_rfl) rfl rfl ⟨(zc HB hw1010_0), (zc HB hw1010_1), (zc HB hw1011_0), (zc HB hw1011_1)⟩ (fun hHeld => ?_); refine with_tabW laws_eqPegS.tab6 laws_eqPegS.bits6 (fun HT_ HW_ => ?_)
        generalize wr.drew = w11 at HB hx1010_0 hx1010_1 hx1011_0 hx1011_1 hHeld ⊢
        refine zp 0 17 10 1 HT_ ?_
        refine zp 1 18 10 3 HT_ ?_
        refine zp 2 19 10 7 HT_ ?_
        refine zp 4 21 10 23 HT_ ?_
        refine zp 5 22 10 55 HT_ ?_
        refine zp 6 23 10 119 HT_ ?_
        refine take_ (i := 3) (N := some 20) (v := ?_) (a' := ?_) (zl 10 127) rfl rfl (take_ofW HT_.out HW_.out (by kernel_rfl)) (fun _ _ _ h => h) (Or.inl ⟨by rfl, ?_⟩) hHeld ?_ ?_
        rotate_left
        ·rintro w' ⟨s0, s1, s2, s3⟩
         go_simp
         with_reducible rfl
        rotate_left
        ·exact zs
        refine take_ (i := 7) (N := some 24) (v := ?_) (a' := ?_) (zl 10 255) rfl rfl (take_ofW HT_.out HW_.out (by kernel_rfl)) (fun _ _ _ h => h) (Or.inl ⟨by rfl, ?_⟩) hHeld ?_ ?_
        rotate_left
        ·rintro w' ⟨s0, s1, s2, s3⟩
         go_simp
         with_reducible rfl
        rotate_left
        ·exact zs
        refine one_ (i := 8) (N := some 25) (zl 10 511) rfl rfl (one_of HT_.out (by kernel_rfl)) (by decide) (fun K hK => ?_)
        refine goes_ Try.func160 (by kernel_rfl) rfl #[.agg #[.int .i64 ((rd_T26 l0 x5_1).f0), .int .i64 ((rd_T26 l0 x5_1).f1)], .agg #[.int .i64 ((rd_T26 l1 x5_1).f0), .int .i64 ((rd_T26 l1 x5_1).f1)]] (by rfl) rfl rfl zn ?_
        with_reducible refine (laws_eqPeg.calls ((rd_T26 l0 x5_1).f0) ((rd_T26 l0 x5_1).f1) ((rd_T26 l1 x5_1).f0) ((rd_T26 l1 x5_1).f1) false _ A7.out).mono ?_
        rintro e w12 ⟨rfl, hb⟩
        refine ⟨_, rfl, ?_⟩
        have n0_ := Aside0.mk (below_step zb hb)
        clear HB
        have HB := n0_
        clear n0_
        (try clear hb)
        (try clear hb2)
        (try clear hk)
        (try clear hi)
        refine hK.out _ _ ⟨(zc HB hw1010_0), (zc HB hw1010_1), (zc HB hw1011_0), (zc HB hw1011_1)⟩ (fun hHeld => ?_)
        clear hK K
        refine norm_ (a' := ?_) ?_ ?_
        rotate_left
        ·show Act.put _ (some 25) _ = _
         exact zs
        refine zp 9 26 10 1023 HT_ ?_
        refine done_ (done_of HT_.out (by kernel_rfl)) ?_
        try go_wp2
        go_ret
        exact ⟨by first | rfl | (simp [errW_none, errW_some] <;> rfl) | (simp [*, errW_none, errW_some] <;> rfl), zb⟩
      ·rw [if_neg c6] at H
       exact absurd H (by simp)
     ·rw [if_neg c5] at H
      exact absurd H (by simp)
    ·rw [if_neg c4] at H
     have c4b0 : decide (x5_1 < (l0.length : Int)) = false := decide_eq_false c4
     clear c4
     obtain rfl := Option.some.inj H
     go_wp2
     go_ret
     exact ⟨by first | rfl | (simp [errW_none, errW_some] <;> rfl) | (simp [*, errW_none, errW_some] <;> rfl), zb⟩
 ·rw [if_neg c3] at H
  have c3b0 : ((l0.length : Int) == (l1.length : Int)) = false := beq_eq_false_iff_ne.mpr c3
  have c3b1 : ((l0.length : Int) != (l1.length : Int)) = true := bne_iff_ne.mpr c3
  have c3b2 : (l0.length == l1.length) = false := by first | simpa using c3 | (simp at c3 ⊢; omega)
  obtain rfl := Option.some.inj H
  go_enter Try.func39, Try.ntmps39
  go_wp2
  go_ret
  exact ⟨by first | rfl | (simp [errW_none, errW_some] <;> rfl) | (simp [*, errW_none, errW_some] <;> rfl), zb⟩
end Go.Proofs.Ytphpdfcblchpnaa.Q
namespace Go.Proofs.Ytphpdfcblchpnaa.Q
open Go.RowKit Go.Proofs.YtphpdfcblchpnaaW.PrintWords Go.Proofs.YtphpdfcblchpnaaW.PrintLast Go.Proofs.YtphpdfcblchpnaaW.PrintMore
attribute [local go_sem] max2_int min2_int max_two min_two max_three min_three max_four min_four   -- for this text's walks alone
set_option linter.unusedVariables false
set_option linter.unusedSimpArgs false
def laws_eqPegSS.l0 : Nat → List (List (S26)) → List (List (S26)) → Int → Option (Bool)
 | 0, _, _, _ => none
 | k + 1, x0, x1, x5 => if x5 < (x0.length : Int) then (if 0 ≤ x5 then (if x5 < (x1.length : Int) then ((laws_eqPegS.f k (rd_L3 x0 x5) (rd_L3 x1 x5)).bind fun t1665 => (if t1665 = true then (laws_eqPegSS.l0 k x0 x1 (wrap64 (x5 + 1))) else (some false))) else (none)) else (none)) else (some true)
def laws_eqPegSS.f (k : Nat) (l0 : List (List (S26))) (l1 : List (List (S26))) : Option (Bool) := if (l0.length : Int) = (l1.length : Int) then (laws_eqPegSS.l0 k l0 l1 0) else (some false)
def laws_eqPegSS.T6 : Bool × List (List Nat × List Nat) := (true, [([], []), ([], []), ([0, 1], [0, 1]), ([2], [2]), ([], []), ([], []), ([4, 5], [4, 5]), ([6], [6]), ([3, 7], [3, 7]), ([8], [8])])
def laws_eqPegSS.B6 : List Nat := [0, 0, 3, 7, 0, 0, 48, 112, 255, 511]
theorem laws_eqPegSS.tab6 : rtab .any (opsOf Try.f85 6) = laws_eqPegSS.T6 := by kernel_rfl
theorem laws_eqPegSS.bits6 : waitsOk laws_eqPegSS.T6.2 laws_eqPegSS.B6 = true := by kernel_rfl
set_option maxHeartbeats 8000000 in
set_option maxRecDepth 100000 in
theorem laws_eqPegSS.calls (k : Nat) (A0 : Option Addr) (c0 : Nat) (l0 : List (List (S26))) (A1 : Option Addr) (c1 : Nat) (l1 : List (List (S26))) (r : Bool) (w : World) (hr0 : Kd.C (Kd.slice 26 k26) w A0 l0.length l0) (hc0 : l0.length ≤ c0) (hr1 : Kd.C (Kd.slice 26 k26) w A1 l1.length l1) (hc1 : l1.length ≤ c1) (h : laws_eqPegSS.f k l0 l1 = some r) :
  Calls Try.prog 85 #[.slice A0 l0.length c0, .slice A1 l1.length c1] w fun e w' => e = .returned (.bool r) ∧ Below w.heap.size w w' := by
 have HR0 := Aside0.mk hr0
 have HC0 := Aside0.mk hc0
 clear hr0 hc0
 have HR1 := Aside0.mk hr1
 have HC1 := Aside0.mk hc1
 clear hr1 hc1
 have HB := Aside0.mk (Below.refl w.heap.size w)
 have H : (if (l0.length : Int) = (l1.length : Int) then (laws_eqPegSS.l0 k l0 l1 0) else (some false)) = some r := h
 clear h
 by_cases c3 : (l0.length : Int) = (l1.length : Int)
 ·rw [if_pos c3] at H
  have c3b0 : ((l0.length : Int) == (l1.length : Int)) = true := beq_iff_eq.mpr c3
  have c3b1 : ((l0.length : Int) != (l1.length : Int)) = false := bne_eq_false_iff_eq.mpr c3
  have c3b2 : (l0.length == l1.length) = true := by first | simpa using c3 | (simp at c3 ⊢; omega)
  clear c3
  have H' := Aside0.mk H
  clear H
  go_enter Try.func85, Try.ntmps85
  go_wp2
  go_loopg [5] k (fun kq v5 w' => ∃ (x5_1 : Int), v5 = .int .i64 x5_1 ∧ Aside0 (laws_eqPegSS.l0 kq l0 l1 x5_1 = some r) ∧ Aside0 (kq ≤ k) ∧ Aside0 (Below w.heap.size w w'))
  case atStart => exact ⟨(0), (by first | rfl | (simp; done) | (simp [*]; done)), H', ⟨Nat.le_refl _⟩, ⟨zb⟩⟩
  case round =>
   clear H'
   try clear c1
   try clear p2
   try clear c3
   try clear c3b0
   try clear c3b1
   try clear c3b2
   obtain ⟨x5_1, rfl, HA, HK1, HB⟩ := hrel
   cases gk with
   | zero => exact absurd HA.out (by simp [laws_eqPegSS.l0])
   | succ k1 =>
    have H := HA.out
    clear HA
    simp only [laws_eqPegSS.l0] at H
    by_cases c4 : x5_1 < (l0.length : Int)
    ·rw [if_pos c4] at H
     have c4b0 : decide (x5_1 < (l0.length : Int)) = true := decide_eq_true c4
     clear c4
     by_cases c5 : 0 ≤ x5_1
     ·rw [if_pos c5] at H
      have c5b0 : decide (0 ≤ x5_1) = true := decide_eq_true c5
      clear c5
      by_cases c6 : x5_1 < (l1.length : Int)
      ·rw [if_pos c6] at H
       have c6b0 : decide (x5_1 < (l1.length : Int)) = true := decide_eq_true c6
       clear c6
       replace H := Option.bind_eq_some_iff.mp H
       obtain ⟨t1665, A70, H⟩ := H
       replace H : (if t1665 = true then (laws_eqPegSS.l0 k1 l0 l1 (wrap64 (x5_1 + 1))) else (some false)) = some r := H
       have A7 := Aside0.mk A70
       clear A70
       by_cases c8 : t1665 = true
       ·subst c8
        have H1 : (laws_eqPegSS.l0 k1 l0 l1 (wrap64 (x5_1 + 1))) = some r := by rw [if_pos rfl] at H; exact H
        clear H
        have H := H1
        clear H1
        have H' := Aside0.mk H
        clear H
        try go_wp2
        have n0_ := Aside0.mk (below_drew1 HB.out)
        clear HB
        have HB := n0_
        clear n0_
        have p1663 : 0 ≤ (x5_1 : Int) := of_decide_eq_true (by first | (with_reducible assumption) | assumption)
        have q1663 : x5_1 < (l0.length : Int) := of_decide_eq_true (by first | (with_reducible assumption) | assumption)
        obtain ⟨ad1663, A1663_0, c1663_0, e1663, hx1663_0, hl1663_0, hi1663_0⟩ := at_L3 HR0.out x5_1 p1663 q1663
        have hw1663_0 := hx1663_0
        cases e1663
        replace hx1663_0 := zc HB hx1663_0
        have HR1663_0 := Aside0.mk hi1663_0
        have HC1663_0 := Aside0.mk hl1663_0
        clear hi1663_0 hl1663_0
        replace p1663 := eq_true p1663
        replace q1663 := eq_true q1663
        have p1664 : 0 ≤ (x5_1 : Int) := of_decide_eq_true (by first | (with_reducible assumption) | assumption)
        have q1664 : x5_1 < (l1.length : Int) := of_decide_eq_true (by first | (with_reducible assumption) | assumption)
        obtain ⟨ad1664, A1664_0, c1664_0, e1664, hx1664_0, hl1664_0, hi1664_0⟩ := at_L3 HR1.out x5_1 p1664 q1664
        have hw1664_0 := hx1664_0
        cases e1664
        replace hx1664_0 := zc HB hx1664_0
        have HR1664_0 := Aside0.mk hi1664_0
        have HC1664_0 := Aside0.mk hl1664_0
        clear hi1664_0 hl1664_0
        replace p1664 := eq_true p1664
        replace q1664 := eq_true q1664
        refine start_ (n := 10) (S := fun w' => w'.cell? (ad1663.add (x5_1).toNat) = some (.slice A1663_0 (rd_L3 l0 x5_1).length c1663_0) ∧ w'.cell? (ad1664.add (x5_1).toNat) = some (.slice A1664_0 (rd_L3 l1 x5_1).length c1664_0)) (ds := []) (zl 10 0) (by kernel_rfl) rfl rfl ⟨(zc HB hw1663_0), (zc HB hw1664_0)⟩ (fun hHeld => ?_); refine with_tabW laws_eqPegSS.tab6 laws_eqPegSS.bits6 (fun HT_ HW_ => ?_)
        generalize wr.drew = w9 at HB HR1663_0 HR1664_0 hx1663_0 hx1664_0 hHeld ⊢
        refine zp 0 17 10 1 HT_ ?_
        refine zp 1 18 10 3 HT_ ?_
        refine zp 2 19 10 7 HT_ ?_
        refine zp 4 21 10 23 HT_ ?_
        refine zp 5 22 10 55 HT_ ?_
        refine zp 6 23 10 119 HT_ ?_
        refine take_ (i := 3) (N := some 20) (v := ?_) (a' := ?_) (zl 10 127) rfl rfl (take_ofW HT_.out HW_.out (by kernel_rfl)) (fun _ _ _ h => h) (Or.inl ⟨by rfl, ?_⟩) hHeld ?_ ?_
        rotate_left
        ·rintro w' ⟨s0, s1⟩
         go_simp
         with_reducible rfl
        rotate_left
        ·exact zs
        refine take_ (i := 7) (N := some 24) (v := ?_) (a' := ?_) (zl 10 255) rfl rfl (take_ofW HT_.out HW_.out (by kernel_rfl)) (fun _ _ _ h => h) (Or.inl ⟨by rfl, ?_⟩) hHeld ?_ ?_
        rotate_left
        ·rintro w' ⟨s0, s1⟩
         go_simp
         with_reducible rfl
        rotate_left
        ·exact zs
        refine one_ (i := 8) (N := some 25) (zl 10 511) rfl rfl (one_of HT_.out (by kernel_rfl)) (by decide) (fun K hK => ?_)
        refine goes_ Try.func39 (by kernel_rfl) rfl #[.slice A1663_0 (rd_L3 l0 x5_1).length c1663_0, .slice A1664_0 (rd_L3 l1 x5_1).length c1664_0] (by rfl) rfl rfl zn ?_
        with_reducible refine (laws_eqPegS.calls k1 _ _ (rd_L3 l0 x5_1) _ _ (rd_L3 l1 x5_1) true _ ?side1 ?side2 ?side3 ?side4 A7.out).mono ?_
        (case side1 => repeat (first | exact (Kd.C_below HR1663_0.out HB.out) | (with_reducible refine Kd.C_alloc ?_ _) | (with_reducible refine Kd.C_drewN ?_ _) | (with_reducible refine Kd.C_drew ?_)))
        (case side2 => exact HC1663_0.out)
        (case side3 => repeat (first | exact (Kd.C_below HR1664_0.out HB.out) | (with_reducible refine Kd.C_alloc ?_ _) | (with_reducible refine Kd.C_drewN ?_ _) | (with_reducible refine Kd.C_drew ?_)))
        (case side4 => exact HC1664_0.out)
        rintro e w10 ⟨rfl, hb⟩
        refine ⟨_, rfl, ?_⟩
        have n0_ := Aside0.mk (below_step zb hb)
        clear HB
        have HB := n0_
        clear n0_
        (try clear hb)
        (try clear hb2)
        (try clear hk)
        (try clear hi)
        refine hK.out _ _ ⟨(zc HB hw1663_0), (zc HB hw1664_0)⟩ (fun hHeld => ?_)
        clear hK K
        refine norm_ (a' := ?_) ?_ ?_
        rotate_left
        ·show Act.put _ (some 25) _ = _
         exact zs
        refine zp 9 26 10 1023 HT_ ?_
        refine done_ (done_of HT_.out (by kernel_rfl)) ?_
        try go_wp2
        go_roundg k1
        case measure => have := HK1.out; omega
        case rel => exact ⟨(wrap64 (x5_1 + 1)), (by first | rfl | (simp; done) | (simp [*]; done)), H', ⟨by have := HK1.out; omega⟩, ⟨zb⟩⟩
       ·replace c8 := Bool.eq_false_iff.mpr c8
        subst c8
        have H1 : (some false) = some r := by rw [if_neg (show ¬ (false = true) by decide)] at H; exact H
        clear H
        have H := H1
        clear H1
        obtain rfl := Option.some.inj H
        try go_wp2
        have n0_ := Aside0.mk (below_drew1 HB.out)
        clear HB
        have HB := n0_
        clear n0_
        have p1663 : 0 ≤ (x5_1 : Int) := of_decide_eq_true (by first | (with_reducible assumption) | assumption)
        have q1663 : x5_1 < (l0.length : Int) := of_decide_eq_true (by first | (with_reducible assumption) | assumption)
        obtain ⟨ad1663, A1663_0, c1663_0, e1663, hx1663_0, hl1663_0, hi1663_0⟩ := at_L3 HR0.out x5_1 p1663 q1663
        have hw1663_0 := hx1663_0
        cases e1663
        replace hx1663_0 := zc HB hx1663_0
        have HR1663_0 := Aside0.mk hi1663_0
        have HC1663_0 := Aside0.mk hl1663_0
        clear hi1663_0 hl1663_0
        replace p1663 := eq_true p1663
        replace q1663 := eq_true q1663
        have p1664 : 0 ≤ (x5_1 : Int) := of_decide_eq_true (by first | (with_reducible assumption) | assumption)
        have q1664 : x5_1 < (l1.length : Int) := of_decide_eq_true (by first | (with_reducible assumption) | assumption)
        obtain ⟨ad1664, A1664_0, c1664_0, e1664, hx1664_0, hl1664_0, hi1664_0⟩ := at_L3 HR1.out x5_1 p1664 q1664
        have hw1664_0 := hx1664_0
        cases e1664
        replace hx1664_0 := zc HB hx1664_0
        have HR1664_0 := Aside0.mk hi1664_0
        have HC1664_0 := Aside0.mk hl1664_0
        clear hi1664_0 hl1664_0
        replace p1664 := eq_true p1664
        replace q1664 := eq_true q1664
        refine start_ (n := 10) (S := fun w' => w'.cell? (ad1663.add (x5_1).toNat) = some (.slice A1663_0 (rd_L3 l0 x5_1).length c1663_0) ∧ w'.cell? (ad1664.add (x5_1).toNat) = some (.slice A1664_0 (rd_L3 l1 x5_1).length c1664_0)) (ds := []) (zl 10 0) (by kernel_rfl) rfl rfl ⟨(zc HB hw1663_0), (zc HB hw1664_0)⟩ (fun hHeld => ?_); refine with_tabW laws_eqPegSS.tab6 laws_eqPegSS.bits6 (fun HT_ HW_ => ?_)
        generalize wr.drew = w11 at HB HR1663_0 HR1664_0 hx1663_0 hx1664_0 hHeld ⊢
        refine zp 0 17 10 1 HT_ ?_
        refine zp 1 18 10 3 HT_ ?_
        refine zp 2 19 10 7 HT_ ?_
        refine zp 4 21 10 23 HT_ ?_
        refine zp 5 22 10 55 HT_ ?_
        refine zp 6 23 10 119 HT_ ?_
        refine take_ (i := 3) (N := some 20) (v := ?_) (a' := ?_) (zl 10 127) rfl rfl (take_ofW HT_.out HW_.out (by kernel_rfl)) (fun _ _ _ h => h) (Or.inl ⟨by rfl, ?_⟩) hHeld ?_ ?_
        rotate_left
        ·rintro w' ⟨s0, s1⟩
         go_simp
         with_reducible rfl
        rotate_left
        ·exact zs
        refine take_ (i := 7) (N := some 24) (v := ?_) (a' := ?_) (zl 10 255) rfl rfl (take_ofW HT_.out HW_.out (by kernel_rfl)) (fun _ _ _ h => h) (Or.inl ⟨by rfl, ?_⟩) hHeld ?_ ?_
        rotate_left
        ·rintro w' ⟨s0, s1⟩
         go_simp
         with_reducible rfl
        rotate_left
        ·exact zs
        refine one_ (i := 8) (N := some 25) (zl 10 511) rfl rfl (one_of HT_.out (by kernel_rfl)) (by decide) (fun K hK => ?_)
        refine goes_ Try.func39 (by kernel_rfl) rfl #[.slice A1663_0 (rd_L3 l0 x5_1).length c1663_0, .slice A1664_0 (rd_L3 l1 x5_1).length c1664_0] (by rfl) rfl rfl zn ?_
        with_reducible refine (laws_eqPegS.calls k1 _ _ (rd_L3 l0 x5_1) _ _ (rd_L3 l1 x5_1) false _ ?side1 ?side2 ?side3 ?side4 A7.out).mono ?_
        (case side1 => repeat (first | exact (Kd.C_below HR1663_0.out HB.out) | (with_reducible refine Kd.C_alloc ?_ _) | (with_reducible refine Kd.C_drewN ?_ _) | (with_reducible refine Kd.C_drew ?_)))
        (case side2 => exact HC1663_0.out)
        (case side3 => repeat (first | exact (Kd.C_below HR1664_0.out HB.out) | (with_reducible refine Kd.C_alloc ?_ _) | (with_reducible refine Kd.C_drewN ?_ _) | (with_reducible refine Kd.C_drew ?_)))
        (case side4 => exact HC1664_0.out)
        rintro e w12 ⟨rfl, hb⟩
        refine ⟨_, rfl, ?_⟩
        have n0_ := Aside0.mk (below_step zb hb)
        clear HB
        have HB := n0_
        clear n0_
        (try clear hb)
        (try clear hb2)
        (try clear hk)
        (try clear hi)
        refine hK.out _ _ ⟨(zc HB hw1663_0), (zc HB hw1664_0)⟩ (fun hHeld => ?_)
        clear hK K
        refine norm_ (a' := ?_) ?_ ?_
        rotate_left
        ·show Act.put _ (some 25) _ = _
         exact zs
        refine zp 9 26 10 1023 HT_ ?_
        refine done_ (done_of HT_.out (by kernel_rfl)) ?_
        try go_wp2
        go_ret
        exact ⟨by first | rfl | (simp [errW_none, errW_some] <;> rfl) | (simp [*, errW_none, errW_some] <;> rfl), zb⟩
      ·rw [if_neg c6] at H
       exact absurd H (by simp)
     ·rw [if_neg c5] at H
      exact absurd H (by simp)
    ·rw [if_neg c4] at H
     have c4b0 : decide (x5_1 < (l0.length : Int)) = false := decide_eq_false c4
     clear c4
     obtain rfl := Option.some.inj H
     go_wp2
     go_ret
     exact ⟨by first | rfl | (simp [errW_none, errW_some] <;> rfl) | (simp [*, errW_none, errW_some] <;> rfl), zb⟩
 ·rw [if_neg c3] at H
  have c3b0 : ((l0.length : Int) == (l1.length : Int)) = false := beq_eq_false_iff_ne.mpr c3
  have c3b1 : ((l0.length : Int) != (l1.length : Int)) = true := bne_iff_ne.mpr c3
  have c3b2 : (l0.length == l1.length) = false := by first | simpa using c3 | (simp at c3 ⊢; omega)
  obtain rfl := Option.some.inj H
  go_enter Try.func85, Try.ntmps85
  go_wp2
  go_ret
  exact ⟨by first | rfl | (simp [errW_none, errW_some] <;> rfl) | (simp [*, errW_none, errW_some] <;> rfl), zb⟩
end Go.Proofs.Ytphpdfcblchpnaa.Q
namespace Go.Proofs.Ytphpdfcblchpnaa.Q
open Go.RowKit Go.Proofs.YtphpdfcblchpnaaW.PrintWords Go.Proofs.YtphpdfcblchpnaaW.PrintLast Go.Proofs.YtphpdfcblchpnaaW.PrintMore
attribute [local go_sem] max2_int min2_int max_two min_two max_three min_three max_four min_four   -- for this text's walks alone
set_option linter.unusedVariables false
set_option linter.unusedSimpArgs false
def impl_where.l0 : Nat → List (S26) → Int → List (S26) → Int → Int → Int → Int → Option (Int)
 | 0, _, _, _, _, _, _, _ => none
 | k + 1, x0, x5, x9, x10, x11, x466000, x466001 => if x11 < x10 then (if 0 ≤ x11 then (if x11 < (x9.length : Int) then ((impl_at.f x0 (wrap64 (x11 + 1))).bind fun bt468 => ((impl_isOn.f ((rd_T26 x9 x11).f0) ((rd_T26 x9 x11).f1) bt468.1 bt468.2 x466000 x466001).bind fun t471 => (if t471 = true then (some 0) else (if ((decide (((rd_T26 x9 x11).f1) > x466001)) != (decide (bt468.2 > x466001))) = true then ((impl_turn.f ((rd_T26 x9 x11).f0) ((rd_T26 x9 x11).f1) bt468.1 bt468.2 x466000 x466001).bind fun t472 => (if ((decide (t472 > 0)) == (decide (bt468.2 > ((rd_T26 x9 x11).f1)))) = true then (impl_where.l0 k x0 (wrap64 (-x5)) x9 x10 (wrap64 (x11 + 1)) x466000 x466001) else (impl_where.l0 k x0 x5 x9 x10 (wrap64 (x11 + 1)) x466000 x466001))) else (impl_where.l0 k x0 x5 x9 x10 (wrap64 (x11 + 1)) x466000 x466001))))) else (none)) else (none)) else (some x5)
def impl_where.f (k : Nat) (l0 : List (S26)) (a1_0 : Int) (a1_1 : Int) : Option (Int) := impl_where.l0 k l0 (-1) l0 (l0.length : Int) 0 a1_0 a1_1
def impl_where.T8 : Bool × List (List Nat × List Nat) := (true, [([], []), ([0], [0]), ([], []), ([2], [2]), ([1, 3], [1, 3]), ([], []), ([5], [5]), ([], []), ([7], [7]), ([6, 8], [6, 8]), ([4, 9], [4, 9]), ([10], [10]), ([11], [11]), ([11], [11]), ([11], [11]), ([12, 13, 14, 11, 11], [11, 12, 13, 14]), ([15, 11], [11, 15]), ([11], [11]), ([17, 11], [11, 17]), ([11], [11]), ([19, 11], [11, 19]), ([18, 20, 11], [11, 18, 20]), ([16, 21, 11], [11, 16, 21]), ([11, 22], [11, 22])])
def impl_where.B8 : List Nat := [0, 1, 0, 4, 15, 0, 32, 0, 128, 480, 1023, 2047, 4095, 4095, 4095, 32767, 65535, 4095, 135167, 4095, 528383, 1970175, 4194303, 8388607]
theorem impl_where.tab8 : rtab .any (opsOf Try.f137 8) = impl_where.T8 := by kernel_rfl
theorem impl_where.bits8 : waitsOk impl_where.T8.2 impl_where.B8 = true := by kernel_rfl
set_option maxHeartbeats 8000000 in
set_option maxRecDepth 100000 in
theorem impl_where.calls (k : Nat) (A0 : Option Addr) (c0 : Nat) (l0 : List (S26)) (a1_0 : Int) (a1_1 : Int) (r : Int) (w : World) (hr0 : Kd.C k26 w A0 l0.length l0) (hc0 : l0.length ≤ c0) (h : impl_where.f k l0 a1_0 a1_1 = some r) :
  Calls Try.prog 137 #[.slice A0 l0.length c0, .agg #[.int .i64 a1_0, .int .i64 a1_1]] w fun e w' => e = .returned (.int .i64 r) ∧ Below w.heap.size w w' := by
 have hu26 := Try.underlying26
 have HR0 := Aside0.mk hr0
 have HC0 := Aside0.mk hc0
 clear hr0 hc0
 have HB := Aside0.mk (Below.refl w.heap.size w)
 have H : (impl_where.l0 k l0 (-1) l0 (l0.length : Int) 0 a1_0 a1_1) = some r := h
 clear h
 have H' := Aside0.mk H
 clear H
 go_enter Try.func137, Try.ntmps137
 go_wp2_with (first | ((with_reducible refine gate_dst (N := 3) rfl ?_); refine box_event ?hg (N := 3) ?hd (cs := #[.int .i64 a1_0, .int .i64 a1_1]) (t := 26) ?hr ?_; (case hd => rfl); (case hg => rfl); (case hr => first | (go_simp; done) | (go_simp; rfl)); intro gb465 hg w3 hbox hb; have n0_ := Aside0.mk (below_step zb hb); have n1_ := Aside0.mk (hbox); have n2_ := Aside0.mk ((by rw [hg]; exact (below_size zb) : w.heap.size ≤ gb465)); have n3_ := Aside0.mk ((by rw [hg]; exact (below_size zb) : w.heap.size ≤ gb465)); clear HB; have HB := n0_; have BK465 := n1_; have GW465 := n2_; have GE465 := n3_; clear n0_ n1_ n2_ n3_; clear hb hbox hg))
 go_loopg [5, 11] k (fun kq v5 v11 w' => ∃ (x5_1 : Int) (x11_1 : Int), v5 = .int .i64 x5_1 ∧ v11 = .int .i64 x11_1 ∧ Aside0 (impl_where.l0 kq l0 x5_1 l0 (l0.length : Int) x11_1 a1_0 a1_1 = some r) ∧ Aside0 (kq ≤ k) ∧ Aside0 (w'.heap[gb465]? = some (.cells #[.int .i64 a1_0, .int .i64 a1_1] 26 (0, 0))) ∧ Aside0 (Below w.heap.size w w'))
 case atStart => exact ⟨((-1)), (0), (by first | rfl | (simp; done) | (simp [*]; done)), (by first | rfl | (simp; done) | (simp [*]; done)), H', ⟨Nat.le_refl _⟩, ⟨zk⟩, ⟨zb⟩⟩
 case round =>
  clear H'
  try clear c1
  try clear p2
  obtain ⟨x5_1, x11_1, rfl, rfl, HA, HK1, BK465, HB⟩ := hrel
  cases gk with
  | zero => exact absurd HA.out (by simp [impl_where.l0])
  | succ k1 =>
   have H := HA.out
   clear HA
   simp only [impl_where.l0] at H
   by_cases c4 : x11_1 < (l0.length : Int)
   ·rw [if_pos c4] at H
    have c4b0 : decide (x11_1 < (l0.length : Int)) = true := decide_eq_true c4
    clear c4
    by_cases c5 : 0 ≤ x11_1
    ·rw [if_pos c5] at H
     have c5b0 : decide (0 ≤ x11_1) = true := decide_eq_true c5
     clear c5
     by_cases c6 : x11_1 < (l0.length : Int)
     ·rw [if_pos c6] at H
      have c6b0 : decide (x11_1 < (l0.length : Int)) = true := decide_eq_true c6
      clear c6
      replace H := Option.bind_eq_some_iff.mp H
      obtain ⟨⟨t468, t469⟩, A70, H⟩ := H
      replace H : ((impl_isOn.f ((rd_T26 l0 x11_1).f0) ((rd_T26 l0 x11_1).f1) t468 t469 a1_0 a1_1).bind fun t471 => (if t471 = true then (some 0) else (if ((decide (((rd_T26 l0 x11_1).f1) > a1_1)) != (decide (t469 > a1_1))) = true then ((impl_turn.f ((rd_T26 l0 x11_1).f0) ((rd_T26 l0 x11_1).f1) t468 t469 a1_0 a1_1).bind fun t472 => (if ((decide (t472 > 0)) == (decide (t469 > ((rd_T26 l0 x11_1).f1)))) = true then (impl_where.l0 k1 l0 (wrap64 (-x5_1)) l0 (l0.length : Int) (wrap64 (x11_1 + 1)) a1_0 a1_1) else (impl_where.l0 k1 l0 x5_1 l0 (l0.length : Int) (wrap64 (x11_1 + 1)) a1_0 a1_1))) else (impl_where.l0 k1 l0 x5_1 l0 (l0.length : Int) (wrap64 (x11_1 + 1)) a1_0 a1_1)))) = some r := H
      have A7 := Aside0.mk A70
      clear A70
      replace H := Option.bind_eq_some_iff.mp H
      obtain ⟨t471, A80, H⟩ := H
      replace H : (if t471 = true then (some 0) else (if ((decide (((rd_T26 l0 x11_1).f1) > a1_1)) != (decide (t469 > a1_1))) = true then ((impl_turn.f ((rd_T26 l0 x11_1).f0) ((rd_T26 l0 x11_1).f1) t468 t469 a1_0 a1_1).bind fun t472 => (if ((decide (t472 > 0)) == (decide (t469 > ((rd_T26 l0 x11_1).f1)))) = true then (impl_where.l0 k1 l0 (wrap64 (-x5_1)) l0 (l0.length : Int) (wrap64 (x11_1 + 1)) a1_0 a1_1) else (impl_where.l0 k1 l0 x5_1 l0 (l0.length : Int) (wrap64 (x11_1 + 1)) a1_0 a1_1))) else (impl_where.l0 k1 l0 x5_1 l0 (l0.length : Int) (wrap64 (x11_1 + 1)) a1_0 a1_1))) = some r := H
      have A8 := Aside0.mk A80
      clear A80
      by_cases c9 : t471 = true
      ·subst c9
       have H1 : (some 0) = some r := by rw [if_pos rfl] at H; exact H
       clear H
       have H := H1
       clear H1
       obtain rfl := Option.some.inj H
       have p466 : 0 ≤ (x11_1 : Int) := of_decide_eq_true (by first | (with_reducible assumption) | assumption)
       have q466 : x11_1 < (l0.length : Int) := of_decide_eq_true (by first | (with_reducible assumption) | assumption)
       obtain ⟨ad466, e466, hx466_0, hx466_1⟩ := at_T26 HR0.out x11_1 p466 q466
       cases e466
       replace hx466_0 := zc HB hx466_0
       replace hx466_1 := zc HB hx466_1
       replace p466 := eq_true p466
       replace q466 := eq_true q466
       go_wp2_with (first | ((with_reducible refine gate_dst (N := 7) rfl ?_); refine box_event ?hg (N := 7) ?hd (cs := #[.int .i64 0, .int .i64 0]) (t := 26) ?hr ?_; (case hd => rfl); (case hg => rfl); (case hr => first | (go_simp; done) | (go_simp; rfl)); intro gb467 hg w10 hbox hb; have n0_ := Aside0.mk (blk_below (g := gb465) (o := .cells #[.int .i64 a1_0, .int .i64 a1_1] 26 (0, 0)) zk hb); have n1_ := Aside0.mk (below_step zb hb); have n2_ := Aside0.mk (hbox); have n3_ := Aside0.mk ((by rw [hg]; exact (below_size zb) : w.heap.size ≤ gb467)); have n4_ := Aside0.mk ((by rw [hg]; exact (below_size zb) : w.heap.size ≤ gb467)); have n5_ := Aside0.mk ((by rw [hg]; exact Nat.ne_of_lt (blk_lt (g := gb465) (o := .cells #[.int .i64 a1_0, .int .i64 a1_1] 26 (0, 0)) zk) : gb465 ≠ gb467)); have n6_ := Aside0.mk ((by rw [hg]; exact Nat.ne_of_gt (blk_lt (g := gb465) (o := .cells #[.int .i64 a1_0, .int .i64 a1_1] 26 (0, 0)) zk) : gb467 ≠ gb465)); clear BK465; clear HB; have BK465 := n0_; have HB := n1_; have BK467 := n2_; have GW467 := n3_; have GE467 := n4_; have NB465_467 := n5_; have NB467_465 := n6_; clear n0_ n1_ n2_ n3_ n4_ n5_ n6_; clear hb hbox hg; have hnb11 := NB467_465.out; have hnc11 := NB465_467.out; have hcz12_0 : w10.cell? ⟨gb467, 0, none⟩ = some (.int .i64 0) := (blk_cell BK467.out 0).trans rfl; have hcz12_1 : w10.cell? ⟨gb467, 1, none⟩ = some (.int .i64 0) := (blk_cell BK467.out 1).trans rfl; have hfz12_0 := blk_frozen BK467.out 0; have hfz12_1 := blk_frozen BK467.out 1) | ((with_reducible refine gate_callee (f := 174) rfl ?_); refine goesL_ (some 19) rfl rfl Try.func174 (by kernel_rfl) rfl #[.slice (some ad466) l0.length c0, .int .i64 (wrap64 (x11_1 + 1))] rfl zn ?_; (with_reducible refine (impl_at.calls _ _ l0 (wrap64 (x11_1 + 1)) t468 t469 _ ?side1 ?side2 A7.out).mono ?_); (case side1 => exact Kd.C_below HR0.out zb); (case side2 => exact HC0.out); rintro e w13 ⟨rfl, hb⟩; refine ⟨_, rfl, ?_⟩; have n0_ := Aside0.mk (blk_below (g := gb465) (o := .cells #[.int .i64 a1_0, .int .i64 a1_1] 26 (0, 0)) (by (with_reducible repeat (first | refine blk_drewN ?_ _ | refine blk_drew ?_ | refine blk_alloc ?_ _)); refine blk_far ?_ NB465_467.out _; (with_reducible repeat (first | refine blk_drewN ?_ _ | refine blk_drew ?_ | refine blk_alloc ?_ _)); refine blk_far ?_ NB465_467.out _; (with_reducible repeat (first | refine blk_drewN ?_ _ | refine blk_drew ?_ | refine blk_alloc ?_ _)); exact BK465.out) hb); have n1_ := Aside0.mk (blk_below (g := gb467) (o := .cells #[.int .i64 ((rd_T26 l0 x11_1).f0), .int .i64 ((rd_T26 l0 x11_1).f1)] 26 (0, 0)) (by (with_reducible repeat (first | refine blk_drewN ?_ _ | refine blk_drew ?_ | refine blk_alloc ?_ _)); refine blk_put (cs := #[.int .i64 ((rd_T26 l0 x11_1).f0), .int .i64 0]) ?_ 1 _ rfl; (with_reducible repeat (first | refine blk_drewN ?_ _ | refine blk_drew ?_ | refine blk_alloc ?_ _)); refine blk_put (cs := #[.int .i64 0, .int .i64 0]) ?_ 0 _ rfl; (with_reducible repeat (first | refine blk_drewN ?_ _ | refine blk_drew ?_ | refine blk_alloc ?_ _)); exact BK467.out) hb); have n2_ := Aside0.mk (below_step zb hb); clear BK465; clear BK467; clear HB; have BK465 := n0_; have BK467 := n1_; have HB := n2_; clear n0_ n1_ n2_; (try clear hb); (try clear hb2); (try clear hk); (try clear hi)) | ((with_reducible refine gate_dst (N := 8) rfl ?_); refine box_event ?hg (N := 8) ?hd (cs := #[.int .i64 0, .int .i64 0]) (t := 26) ?hr ?_; (case hd => rfl); (case hg => rfl); (case hr => first | (go_simp; done) | (go_simp; rfl)); intro gb470 hg w14 hbox hb; have n0_ := Aside0.mk (blk_below (g := gb465) (o := .cells #[.int .i64 a1_0, .int .i64 a1_1] 26 (0, 0)) zk hb); have n1_ := Aside0.mk (blk_below (g := gb467) (o := .cells #[.int .i64 ((rd_T26 l0 x11_1).f0), .int .i64 ((rd_T26 l0 x11_1).f1)] 26 (0, 0)) zk hb); have n2_ := Aside0.mk (below_step zb hb); have n3_ := Aside0.mk (hbox); have n4_ := Aside0.mk ((by rw [hg]; exact (below_size zb) : w.heap.size ≤ gb470)); have n5_ := Aside0.mk ((by rw [hg]; exact (below_size zb) : w.heap.size ≤ gb470)); have n6_ := Aside0.mk ((by rw [hg]; exact Nat.ne_of_lt (blk_lt (g := gb465) (o := .cells #[.int .i64 a1_0, .int .i64 a1_1] 26 (0, 0)) zk) : gb465 ≠ gb470)); have n7_ := Aside0.mk ((by rw [hg]; exact Nat.ne_of_gt (blk_lt (g := gb465) (o := .cells #[.int .i64 a1_0, .int .i64 a1_1] 26 (0, 0)) zk) : gb470 ≠ gb465)); have n8_ := Aside0.mk ((by rw [hg]; exact Nat.ne_of_lt (blk_lt (g := gb467) (o := .cells #[.int .i64 ((rd_T26 l0 x11_1).f0), .int .i64 ((rd_T26 l0 x11_1).f1)] 26 (0, 0)) zk) : gb467 ≠ gb470)); have n9_ := Aside0.mk ((by rw [hg]; exact Nat.ne_of_gt (blk_lt (g := gb467) (o := .cells #[.int .i64 ((rd_T26 l0 x11_1).f0), .int .i64 ((rd_T26 l0 x11_1).f1)] 26 (0, 0)) zk) : gb470 ≠ gb467)); clear BK465; clear BK467; clear HB; have BK465 := n0_; have BK467 := n1_; have HB := n2_; have BK470 := n3_; have GW470 := n4_; have GE470 := n5_; have NB465_470 := n6_; have NB470_465 := n7_; have NB467_470 := n8_; have NB470_467 := n9_; clear n0_ n1_ n2_ n3_ n4_ n5_ n6_ n7_ n8_ n9_; clear hb hbox hg; have hnb15 := NB470_465.out; have hnc15 := NB465_470.out; have hnb16 := NB470_467.out; have hnc16 := NB467_470.out; have hcz17_0 : w14.cell? ⟨gb470, 0, none⟩ = some (.int .i64 0) := (blk_cell BK470.out 0).trans rfl; have hcz17_1 : w14.cell? ⟨gb470, 1, none⟩ = some (.int .i64 0) := (blk_cell BK470.out 1).trans rfl; have hfz17_0 := blk_frozen BK470.out 0; have hfz17_1 := blk_frozen BK470.out 1; have hcz18_0 : w14.cell? ⟨gb467, 0, none⟩ = some (.int .i64 ((rd_T26 l0 x11_1).f0)) := (blk_cell BK467.out 0).trans rfl; have hcz18_1 : w14.cell? ⟨gb467, 1, none⟩ = some (.int .i64 ((rd_T26 l0 x11_1).f1)) := (blk_cell BK467.out 1).trans rfl; have hfz18_0 := blk_frozen BK467.out 0; have hfz18_1 := blk_frozen BK467.out 1; have hcz19_0 : w14.cell? ⟨gb465, 0, none⟩ = some (.int .i64 a1_0) := (blk_cell BK465.out 0).trans rfl; have hcz19_1 : w14.cell? ⟨gb465, 1, none⟩ = some (.int .i64 a1_1) := (blk_cell BK465.out 1).trans rfl; have hfz19_0 := blk_frozen BK465.out 0; have hfz19_1 := blk_frozen BK465.out 1) | ((with_reducible refine gate_callee (f := 178) rfl ?_); refine goesL_ (some 23) rfl rfl Try.func178 (by kernel_rfl) rfl #[.agg #[.int .i64 ((rd_T26 l0 x11_1).f0), .int .i64 ((rd_T26 l0 x11_1).f1)], .agg #[.int .i64 t468, .int .i64 t469], .agg #[.int .i64 a1_0, .int .i64 a1_1]] rfl zn ?_; (with_reducible refine (impl_isOn.calls ((rd_T26 l0 x11_1).f0) ((rd_T26 l0 x11_1).f1) t468 t469 a1_0 a1_1 true _ A8.out).mono ?_); rintro e w20 ⟨rfl, hb⟩; refine ⟨_, rfl, ?_⟩; have n0_ := Aside0.mk (blk_below (g := gb465) (o := .cells #[.int .i64 a1_0, .int .i64 a1_1] 26 (0, 0)) (by (with_reducible repeat (first | refine blk_drewN ?_ _ | refine blk_drew ?_ | refine blk_alloc ?_ _)); refine blk_far ?_ NB465_470.out _; (with_reducible repeat (first | refine blk_drewN ?_ _ | refine blk_drew ?_ | refine blk_alloc ?_ _)); refine blk_far ?_ NB465_470.out _; (with_reducible repeat (first | refine blk_drewN ?_ _ | refine blk_drew ?_ | refine blk_alloc ?_ _)); exact BK465.out) hb); have n1_ := Aside0.mk (blk_below (g := gb467) (o := .cells #[.int .i64 ((rd_T26 l0 x11_1).f0), .int .i64 ((rd_T26 l0 x11_1).f1)] 26 (0, 0)) (by (with_reducible repeat (first | refine blk_drewN ?_ _ | refine blk_drew ?_ | refine blk_alloc ?_ _)); refine blk_far ?_ NB467_470.out _; (with_reducible repeat (first | refine blk_drewN ?_ _ | refine blk_drew ?_ | refine blk_alloc ?_ _)); refine blk_far ?_ NB467_470.out _; (with_reducible repeat (first | refine blk_drewN ?_ _ | refine blk_drew ?_ | refine blk_alloc ?_ _)); exact BK467.out) hb); have n2_ := Aside0.mk (blk_below (g := gb470) (o := .cells #[.int .i64 t468, .int .i64 t469] 26 (0, 0)) (by (with_reducible repeat (first | refine blk_drewN ?_ _ | refine blk_drew ?_ | refine blk_alloc ?_ _)); refine blk_put (cs := #[.int .i64 t468, .int .i64 0]) ?_ 1 _ rfl; (with_reducible repeat (first | refine blk_drewN ?_ _ | refine blk_drew ?_ | refine blk_alloc ?_ _)); refine blk_put (cs := #[.int .i64 0, .int .i64 0]) ?_ 0 _ rfl; (with_reducible repeat (first | refine blk_drewN ?_ _ | refine blk_drew ?_ | refine blk_alloc ?_ _)); exact BK470.out) hb); have n3_ := Aside0.mk (below_step zb hb); clear BK465; clear BK467; clear BK470; clear HB; have BK465 := n0_; have BK467 := n1_; have BK470 := n2_; have HB := n3_; clear n0_ n1_ n2_ n3_; (try clear hb); (try clear hb2); (try clear hk); (try clear hi)))
       go_ret
       exact ⟨by first | rfl | (simp [errW_none, errW_some] <;> rfl) | (simp [*, errW_none, errW_some] <;> rfl), zb⟩
      ·replace c9 := Bool.eq_false_iff.mpr c9
       subst c9
       have H1 : (if ((decide (((rd_T26 l0 x11_1).f1) > a1_1)) != (decide (t469 > a1_1))) = true then ((impl_turn.f ((rd_T26 l0 x11_1).f0) ((rd_T26 l0 x11_1).f1) t468 t469 a1_0 a1_1).bind fun t472 => (if ((decide (t472 > 0)) == (decide (t469 > ((rd_T26 l0 x11_1).f1)))) = true then (impl_where.l0 k1 l0 (wrap64 (-x5_1)) l0 (l0.length : Int) (wrap64 (x11_1 + 1)) a1_0 a1_1) else (impl_where.l0 k1 l0 x5_1 l0 (l0.length : Int) (wrap64 (x11_1 + 1)) a1_0 a1_1))) else (impl_where.l0 k1 l0 x5_1 l0 (l0.length : Int) (wrap64 (x11_1 + 1)) a1_0 a1_1)) = some r := by rw [if_neg (show ¬ (false = true) by decide)] at H; exact H
       clear H
       have H := H1
       clear H1
       by_cases c21 : ((decide (((rd_T26 l0 x11_1).f1) > a1_1)) != (decide (t469 > a1_1))) = true
       ·rw [if_pos c21] at H
        have c21b0 : ((decide (((rd_T26 l0 x11_1).f1) > a1_1)) != (decide (t469 > a1_1))) = true := c21
        (try (have c21b1 : decide ((decide (((rd_T26 l0 x11_1).f1) > a1_1)) = (decide (t469 > a1_1))) = false := by simpa using c21))
        (try (have c21b2 : ((decide (((rd_T26 l0 x11_1).f1) > a1_1)) == (decide (t469 > a1_1))) = false := by simpa using c21))
        (try (have c21b3 : ¬ ((decide (((rd_T26 l0 x11_1).f1) > a1_1)) = (decide (t469 > a1_1))) := by simpa using c21))
        clear c21
        replace H := Option.bind_eq_some_iff.mp H
        obtain ⟨t472, A220, H⟩ := H
        replace H : (if ((decide (t472 > 0)) == (decide (t469 > ((rd_T26 l0 x11_1).f1)))) = true then (impl_where.l0 k1 l0 (wrap64 (-x5_1)) l0 (l0.length : Int) (wrap64 (x11_1 + 1)) a1_0 a1_1) else (impl_where.l0 k1 l0 x5_1 l0 (l0.length : Int) (wrap64 (x11_1 + 1)) a1_0 a1_1)) = some r := H
        have A22 := Aside0.mk A220
        clear A220
        by_cases c23 : ((decide (t472 > 0)) == (decide (t469 > ((rd_T26 l0 x11_1).f1)))) = true
        ·rw [if_pos c23] at H
         have c23b0 : ((decide (t472 > 0)) == (decide (t469 > ((rd_T26 l0 x11_1).f1)))) = true := c23
         (try (have c23b1 : decide ((decide (t472 > 0)) = (decide (t469 > ((rd_T26 l0 x11_1).f1)))) = true := by simpa using c23))
         (try (have c23b2 : ((decide (t472 > 0)) == (decide (t469 > ((rd_T26 l0 x11_1).f1)))) = true := by simpa using c23))
         clear c23
         have H' := Aside0.mk H
         clear H
         have p466 : 0 ≤ (x11_1 : Int) := of_decide_eq_true (by first | (with_reducible assumption) | assumption)
         have q466 : x11_1 < (l0.length : Int) := of_decide_eq_true (by first | (with_reducible assumption) | assumption)
         obtain ⟨ad466, e466, hx466_0, hx466_1⟩ := at_T26 HR0.out x11_1 p466 q466
         cases e466
         replace hx466_0 := zc HB hx466_0
         replace hx466_1 := zc HB hx466_1
         replace p466 := eq_true p466
         replace q466 := eq_true q466
         try go_wp2_with (first | ((with_reducible refine gate_dst (N := 7) rfl ?_); refine box_event ?hg (N := 7) ?hd (cs := #[.int .i64 0, .int .i64 0]) (t := 26) ?hr ?_; (case hd => rfl); (case hg => rfl); (case hr => first | (go_simp; done) | (go_simp; rfl)); intro gb467 hg w24 hbox hb; have n0_ := Aside0.mk (blk_below (g := gb465) (o := .cells #[.int .i64 a1_0, .int .i64 a1_1] 26 (0, 0)) zk hb); have n1_ := Aside0.mk (below_step zb hb); have n2_ := Aside0.mk (hbox); have n3_ := Aside0.mk ((by rw [hg]; exact (below_size zb) : w.heap.size ≤ gb467)); have n4_ := Aside0.mk ((by rw [hg]; exact (below_size zb) : w.heap.size ≤ gb467)); have n5_ := Aside0.mk ((by rw [hg]; exact Nat.ne_of_lt (blk_lt (g := gb465) (o := .cells #[.int .i64 a1_0, .int .i64 a1_1] 26 (0, 0)) zk) : gb465 ≠ gb467)); have n6_ := Aside0.mk ((by rw [hg]; exact Nat.ne_of_gt (blk_lt (g := gb465) (o := .cells #[.int .i64 a1_0, .int .i64 a1_1] 26 (0, 0)) zk) : gb467 ≠ gb465)); clear BK465; clear HB; have BK465 := n0_; have HB := n1_; have BK467 := n2_; have GW467 := n3_; have GE467 := n4_; have NB465_467 := n5_; have NB467_465 := n6_; clear n0_ n1_ n2_ n3_ n4_ n5_ n6_; clear hb hbox hg; have hnb25 := NB467_465.out; have hnc25 := NB465_467.out; have hcz26_0 : w24.cell? ⟨gb467, 0, none⟩ = some (.int .i64 0) := (blk_cell BK467.out 0).trans rfl; have hcz26_1 : w24.cell? ⟨gb467, 1, none⟩ = some (.int .i64 0) := (blk_cell BK467.out 1).trans rfl; have hfz26_0 := blk_frozen BK467.out 0; have hfz26_1 := blk_frozen BK467.out 1) | ((with_reducible refine gate_callee (f := 174) rfl ?_); refine goesL_ (some 19) rfl rfl Try.func174 (by kernel_rfl) rfl #[.slice (some ad466) l0.length c0, .int .i64 (wrap64 (x11_1 + 1))] rfl zn ?_; (with_reducible refine (impl_at.calls _ _ l0 (wrap64 (x11_1 + 1)) t468 t469 _ ?side1 ?side2 A7.out).mono ?_); (case side1 => exact Kd.C_below HR0.out zb); (case side2 => exact HC0.out); rintro e w27 ⟨rfl, hb⟩; refine ⟨_, rfl, ?_⟩; have n0_ := Aside0.mk (blk_below (g := gb465) (o := .cells #[.int .i64 a1_0, .int .i64 a1_1] 26 (0, 0)) (by (with_reducible repeat (first | refine blk_drewN ?_ _ | refine blk_drew ?_ | refine blk_alloc ?_ _)); refine blk_far ?_ NB465_467.out _; (with_reducible repeat (first | refine blk_drewN ?_ _ | refine blk_drew ?_ | refine blk_alloc ?_ _)); refine blk_far ?_ NB465_467.out _; (with_reducible repeat (first | refine blk_drewN ?_ _ | refine blk_drew ?_ | refine blk_alloc ?_ _)); exact BK465.out) hb); have n1_ := Aside0.mk (blk_below (g := gb467) (o := .cells #[.int .i64 ((rd_T26 l0 x11_1).f0), .int .i64 ((rd_T26 l0 x11_1).f1)] 26 (0, 0)) (by (with_reducible repeat (first | refine blk_drewN ?_ _ | refine blk_drew ?_ | refine blk_alloc ?_ _)); refine blk_put (cs := #[.int .i64 ((rd_T26 l0 x11_1).f0), .int .i64 0]) ?_ 1 _ rfl; (with_reducible repeat (first | refine blk_drewN ?_ _ | refine blk_drew ?_ | refine blk_alloc ?_ _)); refine blk_put (cs := #[.int .i64 0, .int .i64 0]) ?_ 0 _ rfl; (with_reducible repeat (first | refine blk_drewN ?_ _ | refine blk_drew ?_ | refine blk_alloc ?_ _)); exact BK467.out) hb); have n2_ := Aside0.mk (below_step zb hb); clear BK465; clear BK467; clear HB; have BK465 := n0_; have BK467 := n1_; have HB := n2_; clear n0_ n1_ n2_; (try clear hb); (try clear hb2); (try clear hk); (try clear hi)) | ((with_reducible refine gate_dst (N := 8) rfl ?_); refine box_event ?hg (N := 8) ?hd (cs := #[.int .i64 0, .int .i64 0]) (t := 26) ?hr ?_; (case hd => rfl); (case hg => rfl); (case hr => first | (go_simp; done) | (go_simp; rfl)); intro gb470 hg w28 hbox hb; have n0_ := Aside0.mk (blk_below (g := gb465) (o := .cells #[.int .i64 a1_0, .int .i64 a1_1] 26 (0, 0)) zk hb); have n1_ := Aside0.mk (blk_below (g := gb467) (o := .cells #[.int .i64 ((rd_T26 l0 x11_1).f0), .int .i64 ((rd_T26 l0 x11_1).f1)] 26 (0, 0)) zk hb); have n2_ := Aside0.mk (below_step zb hb); have n3_ := Aside0.mk (hbox); have n4_ := Aside0.mk ((by rw [hg]; exact (below_size zb) : w.heap.size ≤ gb470)); have n5_ := Aside0.mk ((by rw [hg]; exact (below_size zb) : w.heap.size ≤ gb470)); have n6_ := Aside0.mk ((by rw [hg]; exact Nat.ne_of_lt (blk_lt (g := gb465) (o := .cells #[.int .i64 a1_0, .int .i64 a1_1] 26 (0, 0)) zk) : gb465 ≠ gb470)); have n7_ := Aside0.mk ((by rw [hg]; exact Nat.ne_of_gt (blk_lt (g := gb465) (o := .cells #[.int .i64 a1_0, .int .i64 a1_1] 26 (0, 0)) zk) : gb470 ≠ gb465)); have n8_ := Aside0.mk ((by rw [hg]; exact Nat.ne_of_lt (blk_lt (g := gb467) (o := .cells #[.int .i64 ((rd_T26 l0 x11_1).f0), .int .i64 ((rd_T26 l0 x11_1).f1)] 26 (0, 0)) zk) : gb467 ≠ gb470)); have n9_ := Aside0.mk ((by rw [hg]; exact Nat.ne_of_gt (blk_lt (g := gb467) (o := .cells #[.int .i64 ((rd_T26 l0 x11_1).f0), .int .i64 ((rd_T26 l0 x11_1).f1)] 26 (0, 0)) zk) : gb470 ≠ gb467)); clear BK465; clear BK467; clear HB; have BK465 := n0_; have BK467 := n1_; have HB := n2_; have BK470 := n3_; have GW470 := n4_; have GE470 := n5_; have NB465_470 := n6_; have NB470_465 := n7_; have NB467_470 := n8_; have NB470_467 := n9_; clear n0_ n1_ n2_ n3_ n4_ n5_ n6_ n7_ n8_ n9_; clear hb hbox hg; have hnb29 := NB470_465.out; have hnc29 := NB465_470.out; have hnb30 := NB470_467.out; have hnc30 := NB467_470.out; have hcz31_0 : w28.cell? ⟨gb470, 0, none⟩ = some (.int .i64 0) := (blk_cell BK470.out 0).trans rfl; have hcz31_1 : w28.cell? ⟨gb470, 1, none⟩ = some (.int .i64 0) := (blk_cell BK470.out 1).trans rfl; have hfz31_0 := blk_frozen BK470.out 0; have hfz31_1 := blk_frozen BK470.out 1; have hcz32_0 : w28.cell? ⟨gb467, 0, none⟩ = some (.int .i64 ((rd_T26 l0 x11_1).f0)) := (blk_cell BK467.out 0).trans rfl; have hcz32_1 : w28.cell? ⟨gb467, 1, none⟩ = some (.int .i64 ((rd_T26 l0 x11_1).f1)) := (blk_cell BK467.out 1).trans rfl; have hfz32_0 := blk_frozen BK467.out 0; have hfz32_1 := blk_frozen BK467.out 1; have hcz33_0 : w28.cell? ⟨gb465, 0, none⟩ = some (.int .i64 a1_0) := (blk_cell BK465.out 0).trans rfl; have hcz33_1 : w28.cell? ⟨gb465, 1, none⟩ = some (.int .i64 a1_1) := (blk_cell BK465.out 1).trans rfl; have hfz33_0 := blk_frozen BK465.out 0; have hfz33_1 := blk_frozen BK465.out 1) | ((with_reducible refine gate_callee (f := 178) rfl ?_); refine goesL_ (some 23) rfl rfl Try.func178 (by kernel_rfl) rfl #[.agg #[.int .i64 ((rd_T26 l0 x11_1).f0), .int .i64 ((rd_T26 l0 x11_1).f1)], .agg #[.int .i64 t468, .int .i64 t469], .agg #[.int .i64 a1_0, .int .i64 a1_1]] rfl zn ?_; (with_reducible refine (impl_isOn.calls ((rd_T26 l0 x11_1).f0) ((rd_T26 l0 x11_1).f1) t468 t469 a1_0 a1_1 false _ A8.out).mono ?_); rintro e w34 ⟨rfl, hb⟩; refine ⟨_, rfl, ?_⟩; have n0_ := Aside0.mk (blk_below (g := gb465) (o := .cells #[.int .i64 a1_0, .int .i64 a1_1] 26 (0, 0)) (by (with_reducible repeat (first | refine blk_drewN ?_ _ | refine blk_drew ?_ | refine blk_alloc ?_ _)); refine blk_far ?_ NB465_470.out _; (with_reducible repeat (first | refine blk_drewN ?_ _ | refine blk_drew ?_ | refine blk_alloc ?_ _)); refine blk_far ?_ NB465_470.out _; (with_reducible repeat (first | refine blk_drewN ?_ _ | refine blk_drew ?_ | refine blk_alloc ?_ _)); exact BK465.out) hb); have n1_ := Aside0.mk (blk_below (g := gb467) (o := .cells #[.int .i64 ((rd_T26 l0 x11_1).f0), .int .i64 ((rd_T26 l0 x11_1).f1)] 26 (0, 0)) (by (with_reducible repeat (first | refine blk_drewN ?_ _ | refine blk_drew ?_ | refine blk_alloc ?_ _)); refine blk_far ?_ NB467_470.out _; (with_reducible repeat (first | refine blk_drewN ?_ _ | refine blk_drew ?_ | refine blk_alloc ?_ _)); refine blk_far ?_ NB467_470.out _; (with_reducible repeat (first | refine blk_drewN ?_ _ | refine blk_drew ?_ | refine blk_alloc ?_ _)); exact BK467.out) hb); have n2_ := Aside0.mk (blk_below (g := gb470) (o := .cells #[.int .i64 t468, .int .i64 t469] 26 (0, 0)) (by (with_reducible repeat (first | refine blk_drewN ?_ _ | refine blk_drew ?_ | refine blk_alloc ?_ _)); refine blk_put (cs := #[.int .i64 t468, .int .i64 0]) ?_ 1 _ rfl; (with_reducible repeat (first | refine blk_drewN ?_ _ | refine blk_drew ?_ | refine blk_alloc ?_ _)); refine blk_put (cs := #[.int .i64 0, .int .i64 0]) ?_ 0 _ rfl; (with_reducible repeat (first | refine blk_drewN ?_ _ | refine blk_drew ?_ | refine blk_alloc ?_ _)); exact BK470.out) hb); have n3_ := Aside0.mk (below_step zb hb); clear BK465; clear BK467; clear BK470; clear HB; have BK465 := n0_; have BK467 := n1_; have BK470 := n2_; have HB := n3_; clear n0_ n1_ n2_ n3_; (try clear hb); (try clear hb2); (try clear hk); (try clear hi)))
         have n0_ := Aside0.mk (blk_drew BK465.out)
         have n1_ := Aside0.mk (blk_drew BK467.out)
         have n2_ := Aside0.mk (blk_drew BK470.out)
         have n3_ := Aside0.mk (below_drew1 HB.out)
         clear BK465
         clear BK467
         clear BK470
         clear HB
         have BK465 := n0_
         have BK467 := n1_
         have BK470 := n2_
         have HB := n3_
         clear n0_ n1_ n2_ n3_
         refine start_ (n := 24) (S := fun w' => w'.cell? ⟨gb467, 0, none⟩ = some (.int .i64 ((rd_T26 l0 x11_1).f0)) ∧ w'.cell? ⟨gb467, 1, none⟩ = some (.int .i64 ((rd_T26 l0 x11_1).f1)) ∧ w'.cell? ⟨gb465, 0, none⟩ = some (.int .i64 a1_0) ∧ w'.cell? ⟨gb465, 1, none⟩ = some (.int .i64 a1_1) ∧ w'.cell? ⟨gb470, 0, none⟩ = some (.int .i64 t468) ∧ w'.cell? ⟨gb470, 1, none⟩ = some (.int .i64 t469)) (ds := []) (zl 24 0) (by kernel_rfl) rfl rfl ⟨(blk_cell BK467.out 0).trans rfl, (blk_cell BK467.out 1).trans rfl, (blk_cell BK465.out 0).trans rfl, (blk_cell BK465.out 1).trans rfl, (blk_cell BK470.out 0).trans rfl, (blk_cell BK470.out 1).trans rfl⟩ (fun hHeld => ?_); refine with_tabW impl_where.tab8 impl_where.bits8 (fun HT_ HW_ => ?_)
         generalize w34.drew = w35 at BK465 BK467 BK470 HB hHeld ⊢
         refine zp 0 24 24 1 HT_ ?_
         refine zp 2 26 24 5 HT_ ?_
         refine zp 5 29 24 37 HT_ ?_
         refine zp 7 31 24 165 HT_ ?_
         refine take_ (i := 1) (N := some 25) (v := ?_) (a' := ?_) (zl 24 167) rfl rfl (take_ofW HT_.out HW_.out (by kernel_rfl)) (fun _ _ _ h => h) (Or.inl ⟨by rfl, ?_⟩) hHeld ?_ ?_
         rotate_left
         ·rintro w' ⟨s0, s1, s2, s3, s4, s5⟩
          go_simp
          with_reducible rfl
         rotate_left
         ·exact zs
         refine take_ (i := 3) (N := some 27) (v := ?_) (a' := ?_) (zl 24 175) rfl rfl (take_ofW HT_.out HW_.out (by kernel_rfl)) (fun _ _ _ h => h) (Or.inl ⟨by rfl, ?_⟩) hHeld ?_ ?_
         rotate_left
         ·rintro w' ⟨s0, s1, s2, s3, s4, s5⟩
          go_simp
          with_reducible rfl
         rotate_left
         ·exact zs
         refine zp 4 28 24 191 HT_ ?_
         refine take_ (i := 6) (N := some 30) (v := ?_) (a' := ?_) (zl 24 255) rfl rfl (take_ofW HT_.out HW_.out (by kernel_rfl)) (fun _ _ _ h => h) (Or.inl ⟨by rfl, ?_⟩) hHeld ?_ ?_
         rotate_left
         ·rintro w' ⟨s0, s1, s2, s3, s4, s5⟩
          go_simp
          with_reducible rfl
         rotate_left
         ·exact zs
         refine take_ (i := 8) (N := some 32) (v := ?_) (a' := ?_) (zl 24 511) rfl rfl (take_ofW HT_.out HW_.out (by kernel_rfl)) (fun _ _ _ h => h) (Or.inl ⟨by rfl, ?_⟩) hHeld ?_ ?_
         rotate_left
         ·rintro w' ⟨s0, s1, s2, s3, s4, s5⟩
          go_simp
          with_reducible rfl
         rotate_left
         ·exact zs
         refine zp 9 33 24 1023 HT_ ?_
         refine zp 10 34 24 2047 HT_ ?_
         refine zp 11 35 24 4095 HT_ ?_
         refine zp 17 41 24 135167 HT_ ?_
         refine zp 19 43 24 659455 HT_ ?_
         refine take_ (i := 12) (N := some 36) (v := ?_) (a' := ?_) (zl 24 663551) rfl rfl (take_ofW HT_.out HW_.out (by kernel_rfl)) (fun _ _ _ h => h) (Or.inl ⟨by rfl, ?_⟩) hHeld ?_ ?_
         rotate_left
         ·rintro w' ⟨s0, s1, s2, s3, s4, s5⟩
          go_simp
          with_reducible rfl
         rotate_left
         ·exact zs
         refine take_ (i := 13) (N := some 37) (v := ?_) (a' := ?_) (zl 24 671743) rfl rfl (take_ofW HT_.out HW_.out (by kernel_rfl)) (fun _ _ _ h => h) (Or.inl ⟨by rfl, ?_⟩) hHeld ?_ ?_
         rotate_left
         ·rintro w' ⟨s0, s1, s2, s3, s4, s5⟩
          go_simp
          with_reducible rfl
         rotate_left
         ·exact zs
         refine take_ (i := 14) (N := some 38) (v := ?_) (a' := ?_) (zl 24 688127) rfl rfl (take_ofW HT_.out HW_.out (by kernel_rfl)) (fun _ _ _ h => h) (Or.inl ⟨by rfl, ?_⟩) hHeld ?_ ?_
         rotate_left
         ·rintro w' ⟨s0, s1, s2, s3, s4, s5⟩
          go_simp
          with_reducible rfl
         rotate_left
         ·exact zs
         refine take_ (i := 18) (N := some 42) (v := ?_) (a' := ?_) (zl 24 950271) rfl rfl (take_ofW HT_.out HW_.out (by kernel_rfl)) (fun _ _ _ h => h) (Or.inl ⟨by rfl, ?_⟩) hHeld ?_ ?_
         rotate_left
         ·rintro w' ⟨s0, s1, s2, s3, s4, s5⟩
          go_simp
          with_reducible rfl
         rotate_left
         ·exact zs
         refine take_ (i := 20) (N := some 44) (v := ?_) (a' := ?_) (zl 24 1998847) rfl rfl (take_ofW HT_.out HW_.out (by kernel_rfl)) (fun _ _ _ h => h) (Or.inl ⟨by rfl, ?_⟩) hHeld ?_ ?_
         rotate_left
         ·rintro w' ⟨s0, s1, s2, s3, s4, s5⟩
          go_simp
          with_reducible rfl
         rotate_left
         ·exact zs
         refine zp 21 45 24 4095999 HT_ ?_
         refine one_ (i := 15) (N := some 39) (zl 24 4128767) rfl rfl (one_of HT_.out (by kernel_rfl)) (by decide) (fun K hK => ?_)
         refine goes_ Try.func173 (by kernel_rfl) rfl #[.agg #[.int .i64 ((rd_T26 l0 x11_1).f0), .int .i64 ((rd_T26 l0 x11_1).f1)], .agg #[.int .i64 t468, .int .i64 t469], .agg #[.int .i64 a1_0, .int .i64 a1_1]] (by rfl) rfl rfl zn ?_
         with_reducible refine (impl_turn.calls ((rd_T26 l0 x11_1).f0) ((rd_T26 l0 x11_1).f1) t468 t469 a1_0 a1_1 t472 _ A22.out).mono ?_
         rintro e w36 ⟨rfl, hb⟩
         refine ⟨_, rfl, ?_⟩
         have n0_ := Aside0.mk (blk_below (g := gb465) (o := .cells #[.int .i64 a1_0, .int .i64 a1_1] 26 (0, 0)) zk hb)
         have n1_ := Aside0.mk (blk_below (g := gb467) (o := .cells #[.int .i64 ((rd_T26 l0 x11_1).f0), .int .i64 ((rd_T26 l0 x11_1).f1)] 26 (0, 0)) zk hb)
         have n2_ := Aside0.mk (blk_below (g := gb470) (o := .cells #[.int .i64 t468, .int .i64 t469] 26 (0, 0)) zk hb)
         have n3_ := Aside0.mk (below_step zb hb)
         clear BK465
         clear BK467
         clear BK470
         clear HB
         have BK465 := n0_
         have BK467 := n1_
         have BK470 := n2_
         have HB := n3_
         clear n0_ n1_ n2_ n3_
         (try clear hb)
         (try clear hb2)
         (try clear hk)
         (try clear hi)
         refine hK.out _ _ ⟨(blk_cell BK467.out 0).trans rfl, (blk_cell BK467.out 1).trans rfl, (blk_cell BK465.out 0).trans rfl, (blk_cell BK465.out 1).trans rfl, (blk_cell BK470.out 0).trans rfl, (blk_cell BK470.out 1).trans rfl⟩ (fun hHeld => ?_)
         clear hK K
         refine norm_ (a' := ?_) ?_ ?_
         rotate_left
         ·show Act.put _ (some 39) _ = _
          exact zs
         refine zp 16 40 24 4194303 HT_ ?_
         refine zp 22 46 24 8388607 HT_ ?_
         refine zp 23 47 24 16777215 HT_ ?_
         refine done_ (done_of HT_.out (by kernel_rfl)) ?_
         try go_wp2
         go_roundg k1
         case measure => have := HK1.out; omega
         case rel => exact ⟨(wrap64 (-x5_1)), (wrap64 (x11_1 + 1)), (by first | rfl | (simp; done) | (simp [*]; done)), (by first | rfl | (simp; done) | (simp [*]; done)), H', ⟨by have := HK1.out; omega⟩, ⟨zk⟩, ⟨zb⟩⟩
        ·rw [if_neg c23] at H
         have c23b0 : ((decide (t472 > 0)) == (decide (t469 > ((rd_T26 l0 x11_1).f1)))) = false := by simpa using c23
         (try (have c23b1 : decide ((decide (t472 > 0)) = (decide (t469 > ((rd_T26 l0 x11_1).f1)))) = false := by simpa using c23))
         (try (have c23b2 : ((decide (t472 > 0)) == (decide (t469 > ((rd_T26 l0 x11_1).f1)))) = false := by simpa using c23))
         (try (have c23b3 : ¬ ((decide (t472 > 0)) = (decide (t469 > ((rd_T26 l0 x11_1).f1)))) := by simpa using c23))
         clear c23
         have H' := Aside0.mk H
         clear H
         have p466 : 0 ≤ (x11_1 : Int) := of_decide_eq_true (by first | (with_reducible assumption) | assumption)
         have q466 : x11_1 < (l0.length : Int) := of_decide_eq_true (by first | (with_reducible assumption) | assumption)
         obtain ⟨ad466, e466, hx466_0, hx466_1⟩ := at_T26 HR0.out x11_1 p466 q466
         cases e466
         replace hx466_0 := zc HB hx466_0
         replace hx466_1 := zc HB hx466_1
         replace p466 := eq_true p466
         replace q466 := eq_true q466
         try go_wp2_with (first | ((with_reducible refine gate_dst (N := 7) rfl ?_); refine box_event ?hg (N := 7) ?hd (cs := #[.int .i64 0, .int .i64 0]) (t := 26) ?hr ?_; (case hd => rfl); (case hg => rfl); (case hr => first | (go_simp; done) | (go_simp; rfl)); intro gb467 hg w37 hbox hb; have n0_ := Aside0.mk (blk_below (g := gb465) (o := .cells #[.int .i64 a1_0, .int .i64 a1_1] 26 (0, 0)) zk hb); have n1_ := Aside0.mk (below_step zb hb); have n2_ := Aside0.mk (hbox); have n3_ := Aside0.mk ((by rw [hg]; exact (below_size zb) : w.heap.size ≤ gb467)); have n4_ := Aside0.mk ((by rw [hg]; exact (below_size zb) : w.heap.size ≤ gb467)); have n5_ := Aside0.mk ((by rw [hg]; exact Nat.ne_of_lt (blk_lt (g := gb465) (o := .cells #[.int .i64 a1_0, .int .i64 a1_1] 26 (0, 0)) zk) : gb465 ≠ gb467)); have n6_ := Aside0.mk ((by rw [hg]; exact Nat.ne_of_gt (blk_lt (g := gb465) (o := .cells #[.int .i64 a1_0, .int .i64 a1_1] 26 (0, 0)) zk) : gb467 ≠ gb465)); clear BK465; clear HB; have BK465 := n0_; have HB := n1_; have BK467 := n2_; have GW467 := n3_; have GE467 := n4_; have NB465_467 := n5_; have NB467_465 := n6_; clear n0_ n1_ n2_ n3_ n4_ n5_ n6_; clear hb hbox hg; have hnb38 := NB467_465.out; have hnc38 := NB465_467.out; have hcz39_0 : w37.cell? ⟨gb467, 0, none⟩ = some (.int .i64 0) := (blk_cell BK467.out 0).trans rfl; have hcz39_1 : w37.cell? ⟨gb467, 1, none⟩ = some (.int .i64 0) := (blk_cell BK467.out 1).trans rfl; have hfz39_0 := blk_frozen BK467.out 0; have hfz39_1 := blk_frozen BK467.out 1) | ((with_reducible refine gate_callee (f := 174) rfl ?_); refine goesL_ (some 19) rfl rfl Try.func174 (by kernel_rfl) rfl #[.slice (some ad466) l0.length c0, .int .i64 (wrap64 (x11_1 + 1))] rfl zn ?_; (with_reducible refine (impl_at.calls _ _ l0 (wrap64 (x11_1 + 1)) t468 t469 _ ?side1 ?side2 A7.out).mono ?_); (case side1 => exact Kd.C_below HR0.out zb); (case side2 => exact HC0.out); rintro e w40 ⟨rfl, hb⟩; refine ⟨_, rfl, ?_⟩; have n0_ := Aside0.mk (blk_below (g := gb465) (o := .cells #[.int .i64 a1_0, .int .i64 a1_1] 26 (0, 0)) (by (with_reducible repeat (first | refine blk_drewN ?_ _ | refine blk_drew ?_ | refine blk_alloc ?_ _)); refine blk_far ?_ NB465_467.out _; (with_reducible repeat (first | refine blk_drewN ?_ _ | refine blk_drew ?_ | refine blk_alloc ?_ _)); refine blk_far ?_ NB465_467.out _; (with_reducible repeat (first | refine blk_drewN ?_ _ | refine blk_drew ?_ | refine blk_alloc ?_ _)); exact BK465.out) hb); have n1_ := Aside0.mk (blk_below (g := gb467) (o := .cells #[.int .i64 ((rd_T26 l0 x11_1).f0), .int .i64 ((rd_T26 l0 x11_1).f1)] 26 (0, 0)) (by (with_reducible repeat (first | refine blk_drewN ?_ _ | refine blk_drew ?_ | refine blk_alloc ?_ _)); refine blk_put (cs := #[.int .i64 ((rd_T26 l0 x11_1).f0), .int .i64 0]) ?_ 1 _ rfl; (with_reducible repeat (first | refine blk_drewN ?_ _ | refine blk_drew ?_ | refine blk_alloc ?_ _)); refine blk_put (cs := #[.int .i64 0, .int .i64 0]) ?_ 0 _ rfl; (with_reducible repeat (first | refine blk_drewN ?_ _ | refine blk_drew ?_ | refine blk_alloc ?_ _)); exact BK467.out) hb); have n2_ := Aside0.mk (below_step zb hb); clear BK465; clear BK467; clear HB; have BK465 := n0_; have BK467 := n1_; have HB := n2_; clear n0_ n1_ n2_; (try clear hb); (try clear hb2); (try clear hk); (try clear hi)) | ((with_reducible refine gate_dst (N := 8) rfl ?_); refine box_event ?hg (N := 8) ?hd (cs := #[.int .i64 0, .int .i64 0]) (t := 26) ?hr ?_; (case hd => rfl); (case hg => rfl); (case hr => first | (go_simp; done) | (go_simp; rfl)); intro gb470 hg w41 hbox hb; have n0_ := Aside0.mk (blk_below (g := gb465) (o := .cells #[.int .i64 a1_0, .int .i64 a1_1] 26 (0, 0)) zk hb); have n1_ := Aside0.mk (blk_below (g := gb467) (o := .cells #[.int .i64 ((rd_T26 l0 x11_1).f0), .int .i64 ((rd_T26 l0 x11_1).f1)] 26 (0, 0)) zk hb); have n2_ := Aside0.mk (below_step zb hb); have n3_ := Aside0.mk (hbox); have n4_ := Aside0.mk ((by rw [hg]; exact (below_size zb) : w.heap.size ≤ gb470)); have n5_ := Aside0.mk ((by rw [hg]; exact (below_size zb) : w.heap.size ≤ gb470)); have n6_ := Aside0.mk ((by rw [hg]; exact Nat.ne_of_lt (blk_lt (g := gb465) (o := .cells #[.int .i64 a1_0, .int .i64 a1_1] 26 (0, 0)) zk) : gb465 ≠ gb470)); have n7_ := Aside0.mk ((by rw [hg]; exact Nat.ne_of_gt (blk_lt (g := gb465) (o := .cells #[.int .i64 a1_0, .int .i64 a1_1] 26 (0, 0)) zk) : gb470 ≠ gb465)); have n8_ := Aside0.mk ((by rw [hg]; exact Nat.ne_of_lt (blk_lt (g := gb467) (o := .cells #[.int .i64 ((rd_T26 l0 x11_1).f0), .int .i64 ((rd_T26 l0 x11_1).f1)] 26 (0, 0)) zk) : gb467 ≠ gb470)); have n9_ := Aside0.mk ((by rw [hg]; exact Nat.ne_of_gt (blk_lt (g := gb467) (o := .cells #[.int .i64 ((rd_T26 l0 x11_1).f0), .int .i64 ((rd_T26 l0 x11_1).f1)] 26 (0, 0)) zk) : gb470 ≠ gb467)); clear BK465; clear BK467; clear HB; have BK465 := n0_; have BK467 := n1_; have HB := n2_; have BK470 := n3_; have GW470 := n4_; have GE470 := n5_; have NB465_470 := n6_; have NB470_465 := n7_; have NB467_470 := n8_; have NB470_467 := n9_; clear n0_ n1_ n2_ n3_ n4_ n5_ n6_ n7_ n8_ n9_; clear hb hbox hg; have hnb42 := NB470_465.out; have hnc42 := NB465_470.out; have hnb43 := NB470_467.out; have hnc43 := NB467_470.out; have hcz44_0 : w41.cell? ⟨gb470, 0, none⟩ = some (.int .i64 0) := (blk_cell BK470.out 0).trans rfl; have hcz44_1 : w41.cell? ⟨gb470, 1, none⟩ = some (.int .i64 0) := (blk_cell BK470.out 1).trans rfl; have hfz44_0 := blk_frozen BK470.out 0; have hfz44_1 := blk_frozen BK470.out 1; have hcz45_0 : w41.cell? ⟨gb467, 0, none⟩ = some (.int .i64 ((rd_T26 l0 x11_1).f0)) := (blk_cell BK467.out 0).trans rfl; have hcz45_1 : w41.cell? ⟨gb467, 1, none⟩ = some (.int .i64 ((rd_T26 l0 x11_1).f1)) := (blk_cell BK467.out 1).trans rfl; have hfz45_0 := blk_frozen BK467.out 0; have hfz45_1 := blk_frozen BK467.out 1; have hcz46_0 : w41.cell? ⟨gb465, 0, none⟩ = some (.int .i64 a1_0) := (blk_cell BK465.out 0).trans rfl; have hcz46_1 : w41.cell? ⟨gb465, 1, none⟩ = some (.int .i64 a1_1) := (blk_cell BK465.out 1).trans rfl; have hfz46_0 := blk_frozen BK465.out 0; have hfz46_1 := blk_frozen BK465.out 1) | ((with_reducible refine gate_callee (f := 178) rfl ?_); refine goesL_ (some 23) rfl rfl Try.func178 (by kernel_rfl) rfl #[.agg #[.int .i64 ((rd_T26 l0 x11_1).f0), .int .i64 ((rd_T26 l0 x11_1).f1)], .agg #[.int .i64 t468, .int .i64 t469], .agg #[.int .i64 a1_0, .int .i64 a1_1]] rfl zn ?_; (with_reducible refine (impl_isOn.calls ((rd_T26 l0 x11_1).f0) ((rd_T26 l0 x11_1).f1) t468 t469 a1_0 a1_1 false _ A8.out).mono ?_); rintro e w47 ⟨rfl, hb⟩; refine ⟨_, rfl, ?_⟩; have n0_ := Aside0.mk (blk_below (g := gb465) (o := .cells #[.int .i64 a1_0, .int .i64 a1_1] 26 (0, 0)) (by (with_reducible repeat (first | refine blk_drewN ?_ _ | refine blk_drew ?_ | refine blk_alloc ?_ _)); refine blk_far ?_ NB465_470.out _; (with_reducible repeat (first | refine blk_drewN ?_ _ | refine blk_drew ?_ | refine blk_alloc ?_ _)); refine blk_far ?_ NB465_470.out _; (with_reducible repeat (first | refine blk_drewN ?_ _ | refine blk_drew ?_ | refine blk_alloc ?_ _)); exact BK465.out) hb); have n1_ := Aside0.mk (blk_below (g := gb467) (o := .cells #[.int .i64 ((rd_T26 l0 x11_1).f0), .int .i64 ((rd_T26 l0 x11_1).f1)] 26 (0, 0)) (by (with_reducible repeat (first | refine blk_drewN ?_ _ | refine blk_drew ?_ | refine blk_alloc ?_ _)); refine blk_far ?_ NB467_470.out _; (with_reducible repeat (first | refine blk_drewN ?_ _ | refine blk_drew ?_ | refine blk_alloc ?_ _)); refine blk_far ?_ NB467_470.out _; (with_reducible repeat (first | refine blk_drewN ?_ _ | refine blk_drew ?_ | refine blk_alloc ?_ _)); exact BK467.out) hb); have n2_ := Aside0.mk (blk_below (g := gb470) (o := .cells #[.int .i64 t468, .int .i64 t469] 26 (0, 0)) (by (with_reducible repeat (first | refine blk_drewN ?_ _ | refine blk_drew ?_ | refine blk_alloc ?_ _)); refine blk_put (cs := #[.int .i64 t468, .int .i64 0]) ?_ 1 _ rfl; (with_reducible repeat (first | refine blk_drewN ?_ _ | refine blk_drew ?_ | refine blk_alloc ?_ _)); refine blk_put (cs := #[.int .i64 0, .int .i64 0]) ?_ 0 _ rfl; (with_reducible repeat (first | refine blk_drewN ?_ _ | refine blk_drew ?_ | refine blk_alloc ?_ _)); exact BK470.out) hb); have n3_ := Aside0.mk (below_step zb hb); clear BK465; clear BK467; clear BK470; clear HB; have BK465 := n0_; have BK467 := n1_; have BK470 := n2_; have HB := n3_; clear n0_ n1_ n2_ n3_; (try clear hb); (try clear hb2); (try clear hk); (try clear hi)))
         have n0_ := Aside0.mk (blk_drew BK465.out)
         have n1_ := Aside0.mk (blk_drew BK467.out)
         have n2_ := Aside0.mk (blk_drew BK470.out)
         have n3_ := Aside0.mk (below_drew1 HB.out)
         clear BK465
         clear BK467
         clear BK470
         clear HB
         have BK465 := n0_
         have BK467 := n1_
         have BK470 := n2_
         have HB := n3_
         clear n0_ n1_ n2_ n3_
         refine start_ (n := 24) (S := fun w' => w'.cell? ⟨gb467, 0, none⟩ = some (.int .i64 ((rd_T26 l0 x11_1).f0)) ∧ w'.cell? ⟨gb467, 1, none⟩ = some (.int .i64 ((rd_T26 l0 x11_1).f1)) ∧ w'.cell? ⟨gb465, 0, none⟩ = some (.int .i64 a1_0) ∧ w'.cell? ⟨gb465, 1, none⟩ = some (.int .i64 a1_1) ∧ w'.cell? ⟨gb470, 0, none⟩ = some (.int .i64 t468) ∧ w'.cell? ⟨gb470, 1, none⟩ = some (.int .i64 t469)) (ds := []) (zl 24 0) (by kernel_rfl) rfl rfl ⟨(blk_cell BK467.out 0).trans rfl, (blk_cell BK467.out 1).trans rfl, (blk_cell BK465.out 0).trans rfl, (blk_cell BK465.out 1).trans rfl, (blk_cell BK470.out 0).trans rfl, (blk_cell BK470.out 1).trans rfl⟩ (fun hHeld => ?_); refine with_tabW impl_where.tab8 impl_where.bits8 (fun HT_ HW_ => ?_)
         generalize w47.drew = w48 at BK465 BK467 BK470 HB hHeld ⊢
         refine zp 0 24 24 1 HT_ ?_
         refine zp 2 26 24 5 HT_ ?_
         refine zp 5 29 24 37 HT_ ?_
         refine zp 7 31 24 165 HT_ ?_
         refine take_ (i := 1) (N := some 25) (v := ?_) (a' := ?_) (zl 24 167) rfl rfl (take_ofW HT_.out HW_.out (by kernel_rfl)) (fun _ _ _ h => h) (Or.inl ⟨by rfl, ?_⟩) hHeld ?_ ?_
         rotate_left
         ·rintro w' ⟨s0, s1, s2, s3, s4, s5⟩
          go_simp
          with_reducible rfl
         rotate_left
         ·exact zs
         refine take_ (i := 3) (N := some 27) (v := ?_) (a' := ?_) (zl 24 175) rfl rfl (take_ofW HT_.out HW_.out (by kernel_rfl)) (fun _ _ _ h => h) (Or.inl ⟨by rfl, ?_⟩) hHeld ?_ ?_
         rotate_left
         ·rintro w' ⟨s0, s1, s2, s3, s4, s5⟩
          go_simp
          with_reducible rfl
         rotate_left
         ·exact zs
         refine zp 4 28 24 191 HT_ ?_
         refine take_ (i := 6) (N := some 30) (v := ?_) (a' := ?_) (zl 24 255) rfl rfl (take_ofW HT_.out HW_.out (by kernel_rfl)) (fun _ _ _ h => h) (Or.inl ⟨by rfl, ?_⟩) hHeld ?_ ?_
         rotate_left
         ·rintro w' ⟨s0, s1, s2, s3, s4, s5⟩
          go_simp
          with_reducible rfl
         rotate_left
         ·exact zs
         refine take_ (i := 8) (N := some 32) (v := ?_) (a' := ?_) (zl 24 511) rfl rfl (take_ofW HT_.out HW_.out (by kernel_rfl)) (fun _ _ _ h => h) (Or.inl ⟨by rfl, ?_⟩) hHeld ?_ ?_
         rotate_left
         ·rintro w' ⟨s0, s1, s2, s3, s4, s5⟩
          go_simp
          with_reducible rfl
         rotate_left
         ·exact zs
         refine zp 9 33 24 1023 HT_ ?_
         refine zp 10 34 24 2047 HT_ ?_
         refine zp 11 35 24 4095 HT_ ?_
         refine zp 17 41 24 135167 HT_ ?_
         refine zp 19 43 24 659455 HT_ ?_
         refine take_ (i := 12) (N := some 36) (v := ?_) (a' := ?_) (zl 24 663551) rfl rfl (take_ofW HT_.out HW_.out (by kernel_rfl)) (fun _ _ _ h => h) (Or.inl ⟨by rfl, ?_⟩) hHeld ?_ ?_
         rotate_left
         ·rintro w' ⟨s0, s1, s2, s3, s4, s5⟩
          go_simp
          with_reducible rfl
         rotate_left
         ·exact zs
         refine take_ (i := 13) (N := some 37) (v := ?_) (a' := ?_) (zl 24 671743) rfl rfl (take_ofW HT_.out HW_.out (by kernel_rfl)) (fun _ _ _ h => h) (Or.inl ⟨by rfl, ?_⟩) hHeld ?_ ?_
         rotate_left
         ·rintro w' ⟨s0, s1, s2, s3, s4, s5⟩
          go_simp
          with_reducible rfl
         rotate_left
         ·exact zs
         refine take_ (i := 14) (N := some 38) (v := ?_) (a' := ?_) (zl 24 688127) rfl rfl (take_ofW HT_.out HW_.out (by kernel_rfl)) (fun _ _ _ h => h) (Or.inl ⟨by rfl, ?_⟩) hHeld ?_ ?_
         rotate_left
         ·rintro w' ⟨s0, s1, s2, s3, s4, s5⟩
          go_simp
          with_reducible rfl
         rotate_left
         ·exact zs
         refine take_ (i := 18) (N := some 42) (v := ?_) (a' := ?_) (zl 24 950271) rfl rfl (take_ofW HT_.out HW_.out (by kernel_rfl)) (fun _ _ _ h => h) (Or.inl ⟨by rfl, ?_⟩) hHeld ?_ ?_
         rotate_left
         ·rintro w' ⟨s0, s1, s2, s3, s4, s5⟩
          go_simp
          with_reducible rfl
         rotate_left
         ·exact zs
         refine take_ (i := 20) (N := some 44) (v := ?_) (a' := ?_) (zl 24 1998847) rfl rfl (take_ofW HT_.out HW_.out (by kernel_rfl)) (fun _ _ _ h => h) (Or.inl ⟨by rfl, ?_⟩) hHeld ?_ ?_
         rotate_left
         ·rintro w' ⟨s0, s1, s2, s3, s4, s5⟩
          go_simp
          with_reducible rfl
         rotate_left
         ·exact zs
         refine zp 21 45 24 4095999 HT_ ?_
         refine one_ (i := 15) (N := some 39) (zl 24 4128767) rfl rfl (one_of HT_.out (by kernel_rfl)) (by decide) (fun K hK => ?_)
         refine goes_ Try.func173 (by kernel_rfl) rfl #[.agg #[.int .i64 ((rd_T26 l0 x11_1).f0), .int .i64 ((rd_T26 l0 x11_1).f1)], .agg #[.int .i64 t468, .int .i64 t469], .agg #[.int .i64 a1_0, .int .i64 a1_1]] (by rfl) rfl rfl zn ?_
         with_reducible refine (impl_turn.calls ((rd_T26 l0 x11_1).f0) ((rd_T26 l0 x11_1).f1) t468 t469 a1_0 a1_1 t472 _ A22.out).mono ?_
         rintro e w49 ⟨rfl, hb⟩
         refine ⟨_, rfl, ?_⟩
         have n0_ := Aside0.mk (blk_below (g := gb465) (o := .cells #[.int .i64 a1_0, .int .i64 a1_1] 26 (0, 0)) zk hb)
         have n1_ := Aside0.mk (blk_below (g := gb467) (o := .cells #[.int .i64 ((rd_T26 l0 x11_1).f0), .int .i64 ((rd_T26 l0 x11_1).f1)] 26 (0, 0)) zk hb)
         have n2_ := Aside0.mk (blk_below (g := gb470) (o := .cells #[.int .i64 t468, .int .i64 t469] 26 (0, 0)) zk hb)
         have n3_ := Aside0.mk (below_step zb hb)
         clear BK465
         clear BK467
         clear BK470
         clear HB
         have BK465 := n0_
         have BK467 := n1_
         have BK470 := n2_
         have HB := n3_
         clear n0_ n1_ n2_ n3_
         (try clear hb)
         (try clear hb2)
         (try clear hk)
         (try clear hi)
         refine hK.out _ _ ⟨(blk_cell BK467.out 0).trans rfl, (blk_cell BK467.out 1).trans rfl, (blk_cell BK465.out 0).trans rfl, (blk_cell BK465.out 1).trans rfl, (blk_cell BK470.out 0).trans rfl, (blk_cell BK470.out 1).trans rfl⟩ (fun hHeld => ?_)
         clear hK K
         refine norm_ (a' := ?_) ?_ ?_
         rotate_left
         ·show Act.put _ (some 39) _ = _
          exact zs
         refine zp 16 40 24 4194303 HT_ ?_
         refine zp 22 46 24 8388607 HT_ ?_
         refine zp 23 47 24 16777215 HT_ ?_
         refine done_ (done_of HT_.out (by kernel_rfl)) ?_
         try go_wp2
         go_roundg k1
         case measure => have := HK1.out; omega
         case rel => exact ⟨(x5_1), (wrap64 (x11_1 + 1)), (by first | rfl | (simp; done) | (simp [*]; done)), (by first | rfl | (simp; done) | (simp [*]; done)), H', ⟨by have := HK1.out; omega⟩, ⟨zk⟩, ⟨zb⟩⟩
       ·rw [if_neg c21] at H
        have c21b0 : ((decide (((rd_T26 l0 x11_1).f1) > a1_1)) != (decide (t469 > a1_1))) = false := by simpa using c21
        (try (have c21b1 : decide ((decide (((rd_T26 l0 x11_1).f1) > a1_1)) = (decide (t469 > a1_1))) = true := by simpa using c21))
        (try (have c21b2 : ((decide (((rd_T26 l0 x11_1).f1) > a1_1)) == (decide (t469 > a1_1))) = true := by simpa using c21))
        clear c21
        have H' := Aside0.mk H
        clear H
        have p466 : 0 ≤ (x11_1 : Int) := of_decide_eq_true (by first | (with_reducible assumption) | assumption)
        have q466 : x11_1 < (l0.length : Int) := of_decide_eq_true (by first | (with_reducible assumption) | assumption)
        obtain ⟨ad466, e466, hx466_0, hx466_1⟩ := at_T26 HR0.out x11_1 p466 q466
        cases e466
        replace hx466_0 := zc HB hx466_0
        replace hx466_1 := zc HB hx466_1
        replace p466 := eq_true p466
        replace q466 := eq_true q466
        try go_wp2_with (first | ((with_reducible refine gate_dst (N := 7) rfl ?_); refine box_event ?hg (N := 7) ?hd (cs := #[.int .i64 0, .int .i64 0]) (t := 26) ?hr ?_; (case hd => rfl); (case hg => rfl); (case hr => first | (go_simp; done) | (go_simp; rfl)); intro gb467 hg w50 hbox hb; have n0_ := Aside0.mk (blk_below (g := gb465) (o := .cells #[.int .i64 a1_0, .int .i64 a1_1] 26 (0, 0)) zk hb); have n1_ := Aside0.mk (below_step zb hb); have n2_ := Aside0.mk (hbox); have n3_ := Aside0.mk ((by rw [hg]; exact (below_size zb) : w.heap.size ≤ gb467)); have n4_ := Aside0.mk ((by rw [hg]; exact (below_size zb) : w.heap.size ≤ gb467)); have n5_ := Aside0.mk ((by rw [hg]; exact Nat.ne_of_lt (blk_lt (g := gb465) (o := .cells #[.int .i64 a1_0, .int .i64 a1_1] 26 (0, 0)) zk) : gb465 ≠ gb467)); have n6_ := Aside0.mk ((by rw [hg]; exact Nat.ne_of_gt (blk_lt (g := gb465) (o := .cells #[.int .i64 a1_0, .int .i64 a1_1] 26 (0, 0)) zk) : gb467 ≠ gb465)); clear BK465; clear HB; have BK465 := n0_; have HB := n1_; have BK467 := n2_; have GW467 := n3_; have GE467 := n4_; have NB465_467 := n5_; have NB467_465 := n6_; clear n0_ n1_ n2_ n3_ n4_ n5_ n6_; clear hb hbox hg; have hnb51 := NB467_465.out; have hnc51 := NB465_467.out; have hcz52_0 : w50.cell? ⟨gb467, 0, none⟩ = some (.int .i64 0) := (blk_cell BK467.out 0).trans rfl; have hcz52_1 : w50.cell? ⟨gb467, 1, none⟩ = some (.int .i64 0) := (blk_cell BK467.out 1).trans rfl; have hfz52_0 := blk_frozen BK467.out 0; have hfz52_1 := blk_frozen BK467.out 1) | ((with_reducible refine gate_callee (f := 174) rfl ?_); refine goesL_ (some 19) rfl rfl Try.func174 (by kernel_rfl) rfl #[.slice (some ad466) l0.length c0, .int .i64 (wrap64 (x11_1 + 1))] rfl zn ?_; (with_reducible refine (impl_at.calls _ _ l0 (wrap64 (x11_1 + 1)) t468 t469 _ ?side1 ?side2 A7.out).mono ?_); (case side1 => exact Kd.C_below HR0.out zb); (case side2 => exact HC0.out); rintro e w53 ⟨rfl, hb⟩; refine ⟨_, rfl, ?_⟩; have n0_ := Aside0.mk (blk_below (g := gb465) (o := .cells #[.int .i64 a1_0, .int .i64 a1_1] 26 (0, 0)) (by (with_reducible repeat (first | refine blk_drewN ?_ _ | refine blk_drew ?_ | refine blk_alloc ?_ _)); refine blk_far ?_ NB465_467.out _; (with_reducible repeat (first | refine blk_drewN ?_ _ | refine blk_drew ?_ | refine blk_alloc ?_ _)); refine blk_far ?_ NB465_467.out _; (with_reducible repeat (first | refine blk_drewN ?_ _ | refine blk_drew ?_ | refine blk_alloc ?_ _)); exact BK465.out) hb); have n1_ := Aside0.mk (blk_below (g := gb467) (o := .cells #[.int .i64 ((rd_T26 l0 x11_1).f0), .int .i64 ((rd_T26 l0 x11_1).f1)] 26 (0, 0)) (by (with_reducible repeat (first | refine blk_drewN ?_ _ | refine blk_drew ?_ | refine blk_alloc ?_ _)); refine blk_put (cs := #[.int .i64 ((rd_T26 l0 x11_1).f0), .int .i64 0]) ?_ 1 _ rfl; (with_reducible repeat (first | refine blk_drewN ?_ _ | refine blk_drew ?_ | refine blk_alloc ?_ _)); refine blk_put (cs := #[.int .i64 0, .int .i64 0]) ?_ 0 _ rfl; (with_reducible repeat (first | refine blk_drewN ?_ _ | refine blk_drew ?_ | refine blk_alloc ?_ _)); exact BK467.out) hb); have n2_ := Aside0.mk (below_step zb hb); clear BK465; clear BK467; clear HB; have BK465 := n0_; have BK467 := n1_; have HB := n2_; clear n0_ n1_ n2_; (try clear hb); (try clear hb2); (try clear hk); (try clear hi)) | ((with_reducible refine gate_dst (N := 8) rfl ?_); refine box_event ?hg (N := 8) ?hd (cs := #[.int .i64 0, .int .i64 0]) (t := 26) ?hr ?_; (case hd => rfl); (case hg => rfl); (case hr => first | (go_simp; done) | (go_simp; rfl)); intro gb470 hg w54 hbox hb; have n0_ := Aside0.mk (blk_below (g := gb465) (o := .cells #[.int .i64 a1_0, .int .i64 a1_1] 26 (0, 0)) zk hb); have n1_ := Aside0.mk (blk_below (g := gb467) (o := .cells #[.int .i64 ((rd_T26 l0 x11_1).f0), .int .i64 ((rd_T26 l0 x11_1).f1)] 26 (0, 0)) zk hb); have n2_ := Aside0.mk (below_step zb hb); have n3_ := Aside0.mk (hbox); have n4_ := Aside0.mk ((by rw [hg]; exact (below_size zb) : w.heap.size ≤ gb470)); have n5_ := Aside0.mk ((by rw [hg]; exact (below_size zb) : w.heap.size ≤ gb470)); have n6_ := Aside0.mk ((by rw [hg]; exact Nat.ne_of_lt (blk_lt (g := gb465) (o := .cells #[.int .i64 a1_0, .int .i64 a1_1] 26 (0, 0)) zk) : gb465 ≠ gb470)); have n7_ := Aside0.mk ((by rw [hg]; exact Nat.ne_of_gt (blk_lt (g := gb465) (o := .cells #[.int .i64 a1_0, .int .i64 a1_1] 26 (0, 0)) zk) : gb470 ≠ gb465)); have n8_ := Aside0.mk ((by rw [hg]; exact Nat.ne_of_lt (blk_lt (g := gb467) (o := .cells #[.int .i64 ((rd_T26 l0 x11_1).f0), .int .i64 ((rd_T26 l0 x11_1).f1)] 26 (0, 0)) zk) : gb467 ≠ gb470)); have n9_ := Aside0.mk ((by rw [hg]; exact Nat.ne_of_gt (blk_lt (g := gb467) (o := .cells #[.int .i64 ((rd_T26 l0 x11_1).f0), .int .i64 ((rd_T26 l0 x11_1).f1)] 26 (0, 0)) zk) : gb470 ≠ gb467)); clear BK465; clear BK467; clear HB; have BK465 := n0_; have BK467 := n1_; have HB := n2_; have BK470 := n3_; have GW470 := n4_; have GE470 := n5_; have NB465_470 := n6_; have NB470_465 := n7_; have NB467_470 := n8_; have NB470_467 := n9_; clear n0_ n1_ n2_ n3_ n4_ n5_ n6_ n7_ n8_ n9_; clear hb hbox hg; have hnb55 := NB470_465.out; have hnc55 := NB465_470.out; have hnb56 := NB470_467.out; have hnc56 := NB467_470.out; have hcz57_0 : w54.cell? ⟨gb470, 0, none⟩ = some (.int .i64 0) := (blk_cell BK470.out 0).trans rfl; have hcz57_1 : w54.cell? ⟨gb470, 1, none⟩ = some (.int .i64 0) := (blk_cell BK470.out 1).trans rfl; have hfz57_0 := blk_frozen BK470.out 0; have hfz57_1 := blk_frozen BK470.out 1; have hcz58_0 : w54.cell? ⟨gb467, 0, none⟩ = some (.int .i64 ((rd_T26 l0 x11_1).f0)) := (blk_cell BK467.out 0).trans rfl; have hcz58_1 : w54.cell? ⟨gb467, 1, none⟩ = some (.int .i64 ((rd_T26 l0 x11_1).f1)) := (blk_cell BK467.out 1).trans rfl; have hfz58_0 := blk_frozen BK467.out 0; have hfz58_1 := blk_frozen BK467.out 1; have hcz59_0 : w54.cell? ⟨gb465, 0, none⟩ = some (.int .i64 a1_0) := (blk_cell BK465.out 0).trans rfl; have hcz59_1 : w54.cell? ⟨gb465, 1, none⟩ = some (.int .i64 a1_1) := (blk_cell BK465.out 1).trans rfl; have hfz59_0 := blk_frozen BK465.out 0; have hfz59_1 := blk_frozen BK465.out 1) | ((with_reducible refine gate_callee (f := 178) rfl ?_); refine goesL_ (some 23) rfl rfl Try.func178 (by kernel_rfl) rfl #[.agg #[.int .i64 ((rd_T26 l0 x11_1).f0), .int .i64 ((rd_T26 l0 x11_1).f1)], .agg #[.int .i64 t468, .int .i64 t469], .agg #[.int .i64 a1_0, .int .i64 a1_1]] rfl zn ?_; (with_reducible refine (impl_isOn.calls ((rd_T26 l0 x11_1).f0) ((rd_T26 l0 x11_1).f1) t468 t469 a1_0 a1_1 false _ A8.out).mono ?_); rintro e w60 ⟨rfl, hb⟩; refine ⟨_, rfl, ?_⟩; have n0_ := Aside0.mk (blk_below (g := gb465) (o := .cells #[.int .i64 a1_0, .int .i64 a1_1] 26 (0, 0)) (by (with_reducible repeat (first | refine blk_drewN ?_ _ | refine blk_drew ?_ | refine blk_alloc ?_ _)); refine blk_far ?_ NB465_470.out _; (with_reducible repeat (first | refine blk_drewN ?_ _ | refine blk_drew ?_ | refine blk_alloc ?_ _)); refine blk_far ?_ NB465_470.out _; (with_reducible repeat (first | refine blk_drewN ?_ _ | refine blk_drew ?_ | refine blk_alloc ?_ _)); exact BK465.out) hb); have n1_ := Aside0.mk (blk_below (g := gb467) (o := .cells #[.int .i64 ((rd_T26 l0 x11_1).f0), .int .i64 ((rd_T26 l0 x11_1).f1)] 26 (0, 0)) (by (with_reducible repeat (first | refine blk_drewN ?_ _ | refine blk_drew ?_ | refine blk_alloc ?_ _)); refine blk_far ?_ NB467_470.out _; (with_reducible repeat (first | refine blk_drewN ?_ _ | refine blk_drew ?_ | refine blk_alloc ?_ _)); refine blk_far ?_ NB467_470.out _; (with_reducible repeat (first | refine blk_drewN ?_ _ | refine blk_drew ?_ | refine blk_alloc ?_ _)); exact BK467.out) hb); have n2_ := Aside0.mk (blk_below (g := gb470) (o := .cells #[.int .i64 t468, .int .i64 t469] 26 (0, 0)) (by (with_reducible repeat (first | refine blk_drewN ?_ _ | refine blk_drew ?_ | refine blk_alloc ?_ _)); refine blk_put (cs := #[.int .i64 t468, .int .i64 0]) ?_ 1 _ rfl; (with_reducible repeat (first | refine blk_drewN ?_ _ | refine blk_drew ?_ | refine blk_alloc ?_ _)); refine blk_put (cs := #[.int .i64 0, .int .i64 0]) ?_ 0 _ rfl; (with_reducible repeat (first | refine blk_drewN ?_ _ | refine blk_drew ?_ | refine blk_alloc ?_ _)); exact BK470.out) hb); have n3_ := Aside0.mk (below_step zb hb); clear BK465; clear BK467; clear BK470; clear HB; have BK465 := n0_; have BK467 := n1_; have BK470 := n2_; have HB := n3_; clear n0_ n1_ n2_ n3_; (try clear hb); (try clear hb2); (try clear hk); (try clear hi)))
        have n0_ := Aside0.mk (blk_drew BK465.out)
        have n1_ := Aside0.mk (blk_drew BK467.out)
        have n2_ := Aside0.mk (blk_drew BK470.out)
        have n3_ := Aside0.mk (below_drew1 HB.out)
        clear BK465
        clear BK467
        clear BK470
        clear HB
        have BK465 := n0_
        have BK467 := n1_
        have BK470 := n2_
        have HB := n3_
        clear n0_ n1_ n2_ n3_
        refine start_ (n := 24) (S := fun w' => w'.cell? ⟨gb467, 0, none⟩ = some (.int .i64 ((rd_T26 l0 x11_1).f0)) ∧ w'.cell? ⟨gb467, 1, none⟩ = some (.int .i64 ((rd_T26 l0 x11_1).f1)) ∧ w'.cell? ⟨gb465, 0, none⟩ = some (.int .i64 a1_0) ∧ w'.cell? ⟨gb465, 1, none⟩ = some (.int .i64 a1_1) ∧ w'.cell? ⟨gb470, 0, none⟩ = some (.int .i64 t468) ∧ w'.cell? ⟨gb470, 1, none⟩ = some (.int .i64 t469)) (ds := []) (zl 24 0) (by kernel_rfl) rfl rfl ⟨(blk_cell BK467.out 0).trans rfl, (blk_cell BK467.out 1).trans rfl, (blk_cell BK465.out 0).trans rfl, (blk_cell BK465.out 1).trans rfl, (blk_cell BK470.out 0).trans rfl, (blk_cell BK470.out 1).trans rfl⟩ (fun hHeld => ?_); refine with_tabW impl_where.tab8 impl_where.bits8 (fun HT_ HW_ => ?_)
        generalize w60.drew = w61 at BK465 BK467 BK470 HB hHeld ⊢
        refine zp 0 24 24 1 HT_ ?_
        refine zp 2 26 24 5 HT_ ?_
        refine zp 5 29 24 37 HT_ ?_
        refine zp 7 31 24 165 HT_ ?_
        refine take_ (i := 1) (N := some 25) (v := ?_) (a' := ?_) (zl 24 167) rfl rfl (take_ofW HT_.out HW_.out (by kernel_rfl)) (fun _ _ _ h => h) (Or.inl ⟨by rfl, ?_⟩) hHeld ?_ ?_
        rotate_left
        ·rintro w' ⟨s0, s1, s2, s3, s4, s5⟩
         go_simp
         with_reducible rfl
        rotate_left
        ·exact zs
        refine take_ (i := 3) (N := some 27) (v := ?_) (a' := ?_) (zl 24 175) rfl rfl (take_ofW HT_.out HW_.out (by kernel_rfl)) (fun _ _ _ h => h) (Or.inl ⟨by rfl, ?_⟩) hHeld ?_ ?_
        rotate_left
        ·rintro w' ⟨s0, s1, s2, s3, s4, s5⟩
         go_simp
         with_reducible rfl
        rotate_left
        ·exact zs
        refine zp 4 28 24 191 HT_ ?_
        refine take_ (i := 6) (N := some 30) (v := ?_) (a' := ?_) (zl 24 255) rfl rfl (take_ofW HT_.out HW_.out (by kernel_rfl)) (fun _ _ _ h => h) (Or.inl ⟨by rfl, ?_⟩) hHeld ?_ ?_
        rotate_left
        ·rintro w' ⟨s0, s1, s2, s3, s4, s5⟩
         go_simp
         with_reducible rfl
        rotate_left
        ·exact zs
        refine take_ (i := 8) (N := some 32) (v := ?_) (a' := ?_) (zl 24 511) rfl rfl (take_ofW HT_.out HW_.out (by kernel_rfl)) (fun _ _ _ h => h) (Or.inl ⟨by rfl, ?_⟩) hHeld ?_ ?_
        rotate_left
        ·rintro w' ⟨s0, s1, s2, s3, s4, s5⟩
         go_simp
         with_reducible rfl
        rotate_left
        ·exact zs
        refine zp 9 33 24 1023 HT_ ?_
        refine zp 10 34 24 2047 HT_ ?_
        refine zp 11 35 24 4095 HT_ ?_
        refine pure_ (i := 12) (N := some 36) (v := undef) (a' := ?_) (zl 24 8191) rfl rfl (any_of HT_.out (by kernel_rfl)) (fun _ _ _ h => h) (Or.inr ⟨by rfl, rfl⟩) ?_ ?_
        rotate_left
        ·exact zs
        refine pure_ (i := 13) (N := some 37) (v := undef) (a' := ?_) (zl 24 16383) rfl rfl (any_of HT_.out (by kernel_rfl)) (fun _ _ _ h => h) (Or.inr ⟨by rfl, rfl⟩) ?_ ?_
        rotate_left
        ·exact zs
        refine pure_ (i := 14) (N := some 38) (v := undef) (a' := ?_) (zl 24 32767) rfl rfl (any_of HT_.out (by kernel_rfl)) (fun _ _ _ h => h) (Or.inr ⟨by rfl, rfl⟩) ?_ ?_
        rotate_left
        ·exact zs
        refine pure_ (i := 15) (N := some 39) (v := undef) (a' := ?_) (zl 24 65535) rfl rfl (any_of HT_.out (by kernel_rfl)) (fun _ _ _ h => h) (Or.inr ⟨by rfl, rfl⟩) ?_ ?_
        rotate_left
        ·exact zs
        refine pure_ (i := 16) (N := some 40) (v := undef) (a' := ?_) (zl 24 131071) rfl rfl (any_of HT_.out (by kernel_rfl)) (fun _ _ _ h => h) (Or.inr ⟨by rfl, rfl⟩) ?_ ?_
        rotate_left
        ·exact zs
        refine pure_ (i := 17) (N := some 41) (v := undef) (a' := ?_) (zl 24 262143) rfl rfl (any_of HT_.out (by kernel_rfl)) (fun _ _ _ h => h) (Or.inr ⟨by rfl, rfl⟩) ?_ ?_
        rotate_left
        ·exact zs
        refine pure_ (i := 18) (N := some 42) (v := undef) (a' := ?_) (zl 24 524287) rfl rfl (any_of HT_.out (by kernel_rfl)) (fun _ _ _ h => h) (Or.inr ⟨by rfl, rfl⟩) ?_ ?_
        rotate_left
        ·exact zs
        refine pure_ (i := 19) (N := some 43) (v := undef) (a' := ?_) (zl 24 1048575) rfl rfl (any_of HT_.out (by kernel_rfl)) (fun _ _ _ h => h) (Or.inr ⟨by rfl, rfl⟩) ?_ ?_
        rotate_left
        ·exact zs
        refine pure_ (i := 20) (N := some 44) (v := undef) (a' := ?_) (zl 24 2097151) rfl rfl (any_of HT_.out (by kernel_rfl)) (fun _ _ _ h => h) (Or.inr ⟨by rfl, rfl⟩) ?_ ?_
        rotate_left
        ·exact zs
        refine pure_ (i := 21) (N := some 45) (v := undef) (a' := ?_) (zl 24 4194303) rfl rfl (any_of HT_.out (by kernel_rfl)) (fun _ _ _ h => h) (Or.inr ⟨by rfl, rfl⟩) ?_ ?_
        rotate_left
        ·exact zs
        refine pure_ (i := 22) (N := some 46) (v := undef) (a' := ?_) (zl 24 8388607) rfl rfl (any_of HT_.out (by kernel_rfl)) (fun _ _ _ h => h) (Or.inr ⟨by rfl, rfl⟩) ?_ ?_
        rotate_left
        ·exact zs
        refine zp 23 47 24 16777215 HT_ ?_
        refine done_ (done_of HT_.out (by kernel_rfl)) ?_
        try go_wp2
        go_roundg k1
        case measure => have := HK1.out; omega
        case rel => exact ⟨(x5_1), (wrap64 (x11_1 + 1)), (by first | rfl | (simp; done) | (simp [*]; done)), (by first | rfl | (simp; done) | (simp [*]; done)), H', ⟨by have := HK1.out; omega⟩, ⟨zk⟩, ⟨zb⟩⟩
     ·rw [if_neg c6] at H
      exact absurd H (by simp)
    ·rw [if_neg c5] at H
     exact absurd H (by simp)
   ·rw [if_neg c4] at H
    have c4b0 : decide (x11_1 < (l0.length : Int)) = false := decide_eq_false c4
    clear c4
    obtain rfl := Option.some.inj H
    go_wp2
    go_ret
    exact ⟨by first | rfl | (simp [errW_none, errW_some] <;> rfl) | (simp [*, errW_none, errW_some] <;> rfl), zb⟩
end Go.Proofs.Ytphpdfcblchpnaa.Q
namespace Go.Proofs.Ytphpdfcblchpnaa.Q
open Go.RowKit Go.Proofs.YtphpdfcblchpnaaW.PrintWords Go.Proofs.YtphpdfcblchpnaaW.PrintLast Go.Proofs.YtphpdfcblchpnaaW.PrintMore
attribute [local go_sem] max2_int min2_int max_two min_two max_three min_three max_four min_four   -- for this text's walks alone
set_option linter.unusedVariables false
set_option linter.unusedSimpArgs false
def laws_markPegS.l0 : Nat → List (S26) → Int → Int → Option (Int × (List (S26)))
 | 0, _, _, _ => none
 | k + 1, x0, x1, x5 => if x5 < (x0.length : Int) then (if 0 ≤ x5 then ((some (x0.set (x5 : Int).toNat (⟨x1, (rd_T26 x0 x5).f1⟩ : S26) : List (S26))).bind fun y2136 => (laws_markPegS.l0 k (y2136.set (x5 : Int).toNat (⟨(rd_T26 y2136 x5).f0, wrap64 (x1 + 1)⟩ : S26)) (wrap64 ((wrap64 (x1 + 1)) + 1)) (wrap64 (x5 + 1)))) else (none)) else (some (x1, x0))
def laws_markPegS.f (k : Nat) (l0 : List (S26)) (a1 : Int) : Option (Int × (List (S26))) := laws_markPegS.l0 k l0 a1 0
set_option maxHeartbeats 8000000 in
set_option maxRecDepth 100000 in
theorem laws_markPegS.calls (k : Nat) (P0_ : Nat → Prop) (u9000_ : Value) (l0 : List (S26)) (a1 : Int) (r1 : Int) (r2 : List (S26)) (w0 w : World) (hB : Below w0.heap.size w0 w) (ho0 : Kd.R k26 26 w w0.heap.size P0_ u9000_ l0) (h : laws_markPegS.f k l0 a1 = some (r1, r2)) :
  Calls Try.prog 118 #[u9000_, .int .i64 a1] w fun e w' => e = .returned (.int .i64 r1) ∧ Kd.R k26 26 w' w0.heap.size (fun k_ => (P0_ k_ ∨ w.heap.size ≤ k_)) u9000_ r2 ∧ Below w0.heap.size w0 w' ∧ Kept w w' (fun k_ => P0_ k_) := by
 have HO0 := Aside0.mk (show Kd.R k26 26 w w0.heap.size (fun k_ => (P0_ k_ ∨ w.heap.size ≤ k_)) u9000_ l0 from Kd.R_mono ho0 (fun k_ hk => (.inl hk)))
 have HK := Aside0.mk (Kept.refl w (fun k_ => P0_ k_))
 have HW0 := Aside0.mk hB.size
 have HB := Aside0.mk hB
 clear hB
 have H : (laws_markPegS.l0 k l0 a1 0) = some (r1, r2) := h
 clear h
 have H' := Aside0.mk H
 clear H
 go_enter Try.func118, Try.ntmps118
 go_wp2
 go_loopg [1, 5] k (fun kq v1 v5 w' => ∃ (x0_1 : List (S26)) (x1_1 : Int) (x5_1 : Int), v1 = .int .i64 x1_1 ∧ v5 = .int .i64 x5_1 ∧ Aside0 (laws_markPegS.l0 kq x0_1 x1_1 x5_1 = some (r1, r2)) ∧ Aside0 (kq ≤ k) ∧ Aside0 (Kd.R k26 26 w' w0.heap.size (fun k_ => (P0_ k_ ∨ w.heap.size ≤ k_)) u9000_ x0_1) ∧ Aside0 (Kept w w' (fun k_ => P0_ k_)) ∧ Aside0 (Below w0.heap.size w0 w'))
 case atStart => exact ⟨(l0), (a1), (0), (by first | rfl | (simp; done) | (simp [*]; done)), (by first | rfl | (simp; done) | (simp [*]; done)), H', ⟨Nat.le_refl _⟩, ⟨by (with_reducible repeat (first | apply Kd.R_alloc | apply Kd.R_drewN | apply Kd.R_drew)); exact HO0.out⟩, ⟨by repeat (first | (with_reducible first | exact HK.out | apply Kept.alloc | apply Kept.drewN | apply Kept.drew) | exact HK.out)⟩, ⟨zb⟩⟩
 case round =>
  clear H'
  try clear c1
  try clear p2
  obtain ⟨x0_1, x1_1, x5_1, rfl, rfl, HA, HK1, HO_0, HK, HB⟩ := hrel
  cases gk with
  | zero => exact absurd HA.out (by simp [laws_markPegS.l0])
  | succ k1 =>
   have H := HA.out
   clear HA
   simp only [laws_markPegS.l0] at H
   by_cases c3 : x5_1 < (x0_1.length : Int)
   ·rw [if_pos c3] at H
    have c3b0 : decide (x5_1 < (x0_1.length : Int)) = true := decide_eq_true c3
    clear c3
    by_cases c4 : 0 ≤ x5_1
    ·rw [if_pos c4] at H
     have c4b0 : decide (0 ≤ x5_1) = true := decide_eq_true c4
     clear c4
     obtain ⟨y2136, hy2136⟩ : ∃ y_ : List (S26), y_ = (x0_1.set (x5_1 : Int).toNat (⟨x1_1, (rd_T26 x0_1 x5_1).f1⟩ : S26)) := ⟨_, rfl⟩
     replace H : (laws_markPegS.l0 k1 (y2136.set (x5_1 : Int).toNat (⟨(rd_T26 y2136 x5_1).f0, wrap64 (x1_1 + 1)⟩ : S26)) (wrap64 ((wrap64 (x1_1 + 1)) + 1)) (wrap64 (x5_1 + 1))) = some (r1, r2) := by first | (rw [hy2136]; with_reducible exact H) | (have H2_ := (Option.bind_some _ _).symm.trans H; rw [hy2136]; with_reducible exact H2_) | (have H2_ := (Option.bind_some _ _).symm.trans H; with_reducible exact H2_) | with_reducible exact H | (rw [hy2136]; exact H) | exact H
     have Ny2136 := Aside0.mk hy2136
     clear hy2136
     obtain ⟨y2137, hy2137⟩ : ∃ y_ : List (S26), y_ = (y2136.set (x5_1 : Int).toNat (⟨(rd_T26 y2136 x5_1).f0, wrap64 (x1_1 + 1)⟩ : S26)) := ⟨_, rfl⟩
     replace H : (laws_markPegS.l0 k1 y2137 (wrap64 ((wrap64 (x1_1 + 1)) + 1)) (wrap64 (x5_1 + 1))) = some (r1, r2) := by first | (rw [hy2137]; with_reducible exact H) | (have H2_ := (Option.bind_some _ _).symm.trans H; rw [hy2137]; with_reducible exact H2_) | (have H2_ := (Option.bind_some _ _).symm.trans H; with_reducible exact H2_) | with_reducible exact H | (rw [hy2137]; exact H) | exact H
     have Ny2137 := Aside0.mk hy2137
     clear hy2137
     have H' := Aside0.mk H
     clear H
     obtain ⟨Ao7, co7, eo7⟩ := Kd.R_slice HO_0.out
     subst eo7
     have p5 : 0 ≤ (x5_1 : Int) := of_decide_eq_true (by first | (with_reducible assumption) | assumption)
     have q5 : (x5_1 : Int) < ((x0_1.length : Int) : Int) := of_decide_eq_true (by first | (with_reducible assumption) | assumption)
     obtain ⟨go5, co5, eo5, gb5, gl5, cl5, HG5⟩ := Kd.R_form HO_0.out (by omega)
     (first | cases eo5 | (injection eo5 with ea_ en_ ec_; (first | subst ea_ | (injection ea_ with ea_; subst ea_)); subst ec_; clear en_))
     have GB5 := Aside0.mk gb5
     have GG5 := Aside0.mk HG5
     clear gb5 gl5 HG5
     have HMgo5 := Aside0.mk (show (P0_ go5 ∨ w.heap.size ≤ go5) from (HO_0.out.1 _ rfl))
     obtain ⟨ce5, hcl5, hM5, hcc5, hfr5⟩ := Kd.R_elem HO_0.out z26 (x5_1 : Int) p5 q5
     obtain rfl := k26_openM hM5
     have hx5_0 : wr.cell? ⟨go5, (x5_1 : Int).toNat * 2, none⟩ = some (.int .i64 ((rd_T26 x0_1 x5_1).f0)) := hcc5 0 _ rfl
     have hx5_1 : wr.cell? ⟨go5, (x5_1 : Int).toNat * 2 + 1, none⟩ = some (.int .i64 ((rd_T26 x0_1 x5_1).f1)) := hcc5 1 _ rfl
     have hf5_0 : wr.frozen? ⟨go5, (x5_1 : Int).toNat * 2, none⟩ = false := hfr5 0
     have hf5_1 : wr.frozen? ⟨go5, (x5_1 : Int).toNat * 2 + 1, none⟩ = false := hfr5 1
     clear hcl5 hcc5 hfr5 hM5
     replace p5 := eq_true p5
     replace q5 := eq_true q5
     have HX8 := Aside0.mk (show Kd.R k26 26 wr w0.heap.size (fun k_ => (P0_ k_ ∨ w.heap.size ≤ k_)) (.slice (some ⟨go5, 0, none⟩) x0_1.length co7) x0_1 from (by (with_reducible repeat (first | apply Kd.R_alloc | apply Kd.R_drewN | apply Kd.R_drew)); exact HO_0.out))
     obtain ⟨ce8, hcl8, hM8, hcc8, hfr8⟩ := Kd.R_elem HX8.out z26 (x5_1 : Int) (of_decide_eq_true (by first | (with_reducible assumption) | assumption)) (by have h_ : (x5_1 : Int) < ((x0_1.length : Int) : Int) := of_decide_eq_true (by first | (with_reducible assumption) | assumption); first | exact h_ | (have e_ := (Kd.R_reads' HO_0.out).1; omega) | simpa using h_)
     obtain rfl := k26_openM hM8
     have HP8 := Kd.R_seg HX8.out (x5_1 : Int) (of_decide_eq_true (by first | (with_reducible assumption) | assumption)) (by have h_ : (x5_1 : Int) < ((x0_1.length : Int) : Int) := of_decide_eq_true (by first | (with_reducible assumption) | assumption); first | exact h_ | (have e_ := (Kd.R_reads' HO_0.out).1; omega) | simpa using h_) (seg := [.int .i64 x1_1]) (j := 0) hcl8 hcc8 (show 1 ≤ 2 from by decide) (x' := (⟨x1_1, (rd_T26 x0_1 x5_1).f1⟩ : S26)) (k26_mkM _ _ _ (⟨x1_1, (rd_T26 x0_1 x5_1).f1⟩ : S26) ) (fun _ hk => hk)
     have hx8_0 := hcc8 0 _ rfl
     (try simp only [show (k26).sz = 2 from rfl, Nat.mul_one, Nat.add_zero] at hx8_0)
     have hf8_0 := hfr8 0
     (try simp only [show (k26).sz = 2 from rfl, Nat.mul_one, Nat.add_zero] at hf8_0)
     clear hcl8 hcc8 hfr8 hM8
     go_wp2_with (first | ((with_reducible refine gate_store (t := 3) (p := 16) rfl ?_); refine store_event (t := 3) (p := 16) (v := ?vo_w9) (w1 := (wr.setCell ⟨go5, (x5_1 : Int).toNat * 2, none⟩ (.int .i64 x1_1))) ?hg ?ho ?hn ?hr ?_; (case ho => rfl); (case hg => rfl); (case hn => rfl); (case hr => first | (go_simp; done) | (go_simp; rfl)); intro w9 hw; have hg : wr.grownBy w9 (some go5) := (by rw [hw]; exact HP8.2); have hp_ : Kd.R k26 26 w9 w0.heap.size (fun k_ => (P0_ k_ ∨ w.heap.size ≤ k_)) (.slice (some ⟨go5, 0, none⟩) x0_1.length co7) y2136 := (by rw [hw, Ny2136.out]; exact HP8.1); clear HP8; have n0_ := Aside0.mk (hp_); have n1_ := Aside0.mk ((by rw [hw]; exact below_set (HB.out) GB5.out : Below w0.heap.size w0 w9)); have n2_ := Aside0.mk (Kept.of_grown (S := (fun k_ => P0_ k_)) hg (by repeat (first | (with_reducible first | exact HK.out | apply Kept.alloc | apply Kept.drewN | apply Kept.drew) | exact HK.out)) (fun k_ e_ => (HO_0.out.1 k_ e_))); clear HO_0; clear HB; clear HK; have HO_0 := n0_; have HB := n1_; have HK := n2_; clear n0_ n1_ n2_; clear hg hw hp_; have p6 : 0 ≤ (x5_1 : Int) := of_decide_eq_true (by first | (with_reducible assumption) | assumption); have q6 : (x5_1 : Int) < ((x0_1.length : Int) : Int) := of_decide_eq_true (by first | (with_reducible assumption) | assumption); obtain ⟨ce6, hcl6, hM6, hcc6, hfr6⟩ := Kd.R_elem HO_0.out z26 (x5_1 : Int) p6 q6; obtain rfl := k26_openM hM6; have hx6_0 : w9.cell? ⟨go5, (x5_1 : Int).toNat * 2, none⟩ = some (.int .i64 ((rd_T26 y2136 x5_1).f0)) := hcc6 0 _ rfl; have hx6_1 : w9.cell? ⟨go5, (x5_1 : Int).toNat * 2 + 1, none⟩ = some (.int .i64 ((rd_T26 y2136 x5_1).f1)) := hcc6 1 _ rfl; have hf6_0 : w9.frozen? ⟨go5, (x5_1 : Int).toNat * 2, none⟩ = false := hfr6 0; have hf6_1 : w9.frozen? ⟨go5, (x5_1 : Int).toNat * 2 + 1, none⟩ = false := hfr6 1; clear hcl6 hcc6 hfr6 hM6; replace p6 := eq_true p6; replace q6 := eq_true q6; have HX10 := Aside0.mk (show Kd.R k26 26 w9 w0.heap.size (fun k_ => (P0_ k_ ∨ w.heap.size ≤ k_)) (.slice (some ⟨go5, 0, none⟩) x0_1.length co7) y2136 from (by (with_reducible repeat (first | apply Kd.R_alloc | apply Kd.R_drewN | apply Kd.R_drew)); exact HO_0.out)); obtain ⟨ce10, hcl10, hM10, hcc10, hfr10⟩ := Kd.R_elem HX10.out z26 (x5_1 : Int) (of_decide_eq_true (by first | (with_reducible assumption) | assumption)) (by have h_ : (x5_1 : Int) < ((x0_1.length : Int) : Int) := of_decide_eq_true (by first | (with_reducible assumption) | assumption); first | exact h_ | (have e_ := (Kd.R_reads' HO_0.out).1; omega) | simpa using h_); obtain rfl := k26_openM hM10; have HP10 := Kd.R_seg HX10.out (x5_1 : Int) (of_decide_eq_true (by first | (with_reducible assumption) | assumption)) (by have h_ : (x5_1 : Int) < ((x0_1.length : Int) : Int) := of_decide_eq_true (by first | (with_reducible assumption) | assumption); first | exact h_ | (have e_ := (Kd.R_reads' HO_0.out).1; omega) | simpa using h_) (seg := [.int .i64 (wrap64 (x1_1 + 1))]) (j := 1) hcl10 hcc10 (show 2 ≤ 2 from by decide) (x' := (⟨(rd_T26 y2136 x5_1).f0, wrap64 (x1_1 + 1)⟩ : S26)) (k26_mkM _ _ _ (⟨(rd_T26 y2136 x5_1).f0, wrap64 (x1_1 + 1)⟩ : S26) ) (fun _ hk => hk); have hx10_1 := hcc10 1 _ rfl; (try simp only [show (k26).sz = 2 from rfl, Nat.mul_one, Nat.add_zero] at hx10_1); have hf10_1 := hfr10 1; (try simp only [show (k26).sz = 2 from rfl, Nat.mul_one, Nat.add_zero] at hf10_1); clear hcl10 hcc10 hfr10 hM10) | ((with_reducible refine gate_store (t := 3) (p := 23) rfl ?_); refine store_event (t := 3) (p := 23) (v := ?vo_w11) (w1 := (w9.setCell ⟨go5, (x5_1 : Int).toNat * 2 + 1, none⟩ (.int .i64 (wrap64 (x1_1 + 1))))) ?hg ?ho ?hn ?hr ?_; (case ho => rfl); (case hg => rfl); (case hn => rfl); (case hr => first | (go_simp; done) | (go_simp; rfl)); intro w11 hw; have hg : w9.grownBy w11 (some go5) := (by rw [hw]; exact HP10.2); have hp_ : Kd.R k26 26 w11 w0.heap.size (fun k_ => (P0_ k_ ∨ w.heap.size ≤ k_)) (.slice (some ⟨go5, 0, none⟩) x0_1.length co7) y2137 := (by rw [hw, Ny2137.out]; exact HP10.1); clear HP10; have n0_ := Aside0.mk (hp_); have n1_ := Aside0.mk ((by rw [hw]; exact below_set (HB.out) GB5.out : Below w0.heap.size w0 w11)); have n2_ := Aside0.mk (Kept.of_grown (S := (fun k_ => P0_ k_)) hg (by repeat (first | (with_reducible first | exact HK.out | apply Kept.alloc | apply Kept.drewN | apply Kept.drew) | exact HK.out)) (fun k_ e_ => (HO_0.out.1 k_ e_))); clear HO_0; clear HB; clear HK; have HO_0 := n0_; have HB := n1_; have HK := n2_; clear n0_ n1_ n2_; clear hg hw hp_))
     go_roundg k1
     case measure => have := HK1.out; omega
     case rel => exact ⟨(y2137), (wrap64 ((wrap64 (x1_1 + 1)) + 1)), (wrap64 (x5_1 + 1)), (by first | rfl | (simp; done) | (simp [*]; done)), (by first | rfl | (simp; done) | (simp [*]; done)), H', ⟨by have := HK1.out; omega⟩, ⟨by (with_reducible repeat (first | apply Kd.R_alloc | apply Kd.R_drewN | apply Kd.R_drew)); exact HO_0.out⟩, ⟨by repeat (first | (with_reducible first | exact HK.out | apply Kept.alloc | apply Kept.drewN | apply Kept.drew) | exact HK.out)⟩, ⟨zb⟩⟩
    ·rw [if_neg c4] at H
     exact absurd H (by simp)
   ·rw [if_neg c3] at H
    have c3b0 : decide (x5_1 < (x0_1.length : Int)) = false := decide_eq_false c3
    clear c3
    simp only [Option.some.injEq, Prod.mk.injEq] at H
    obtain ⟨rfl, rfl⟩ := H
    obtain ⟨Ao12, co12, eo12⟩ := Kd.R_slice HO_0.out
    subst eo12
    go_wp2
    go_ret
    exact ⟨by first | rfl | (simp [errW_none, errW_some] <;> rfl) | (simp [*, errW_none, errW_some] <;> rfl), by (with_reducible repeat (first | apply Kd.R_alloc | apply Kd.R_drewN | apply Kd.R_drew)); exact HO_0.out, by repeat (first | (with_reducible first | exact HB.out | apply below_alloc | apply pw_below_drewN | apply below_drew1) | exact HB.out), by repeat (first | (with_reducible first | exact HK.out | apply Kept.alloc | apply Kept.drewN | apply Kept.drew) | exact HK.out)⟩
def laws_heldPegS.l0 : Nat → List (S26) → Int → Int → Option (Int)
 | 0, _, _, _ => none
 | k + 1, x0, x1, x5 => if x5 < (x0.length : Int) then (if 0 ≤ x5 then (if ((rd_T26 x0 x5).f0) = x1 then (if ((rd_T26 x0 x5).f1) = (wrap64 (x1 + 1)) then (laws_heldPegS.l0 k x0 (wrap64 ((wrap64 (x1 + 1)) + 1)) (wrap64 (x5 + 1))) else (some (-1))) else (some (-1))) else (none)) else (some x1)
def laws_heldPegS.f (k : Nat) (l0 : List (S26)) (a1 : Int) : Option (Int) := laws_heldPegS.l0 k l0 a1 0
set_option maxHeartbeats 8000000 in
set_option maxRecDepth 100000 in
theorem laws_heldPegS.calls (k : Nat) (A0 : Option Addr) (c0 : Nat) (l0 : List (S26)) (a1 : Int) (r : Int) (w : World) (hr0 : Kd.C k26 w A0 l0.length l0) (hc0 : l0.length ≤ c0) (h : laws_heldPegS.f k l0 a1 = some r) :
  Calls Try.prog 119 #[.slice A0 l0.length c0, .int .i64 a1] w fun e w' => e = .returned (.int .i64 r) ∧ Drawn0 w w' := by
 have HR0 := Aside0.mk hr0
 have HC0 := Aside0.mk hc0
 clear hr0 hc0
 have H : (laws_heldPegS.l0 k l0 a1 0) = some r := h
 clear h
 have H' := Aside0.mk H
 clear H
 go_enter Try.func119, Try.ntmps119
 go_wp2
 go_loopg [1, 5] k (fun kq v1 v5 w' => ∃ (x1_1 : Int) (x5_1 : Int), v1 = .int .i64 x1_1 ∧ v5 = .int .i64 x5_1 ∧ Aside0 (laws_heldPegS.l0 kq l0 x1_1 x5_1 = some r) ∧ Aside0 (kq ≤ k) ∧ Drawn0 w w')
 case atStart => exact ⟨(a1), (0), (by first | rfl | (simp; done) | (simp [*]; done)), (by first | rfl | (simp; done) | (simp [*]; done)), H', ⟨Nat.le_refl _⟩, by repeat (first | exact Drawn0.refl _ | apply Drawn0.step)⟩
 case round =>
  clear H'
  try clear c1
  try clear p2
  obtain ⟨x1_1, x5_1, rfl, rfl, HA, HK1, ⟨m1, rfl⟩⟩ := hrel
  cases gk with
  | zero => exact absurd HA.out (by simp [laws_heldPegS.l0])
  | succ k1 =>
   have H := HA.out
   clear HA
   simp only [laws_heldPegS.l0] at H
   by_cases c3 : x5_1 < (l0.length : Int)
   ·rw [if_pos c3] at H
    have c3b0 : decide (x5_1 < (l0.length : Int)) = true := decide_eq_true c3
    clear c3
    by_cases c4 : 0 ≤ x5_1
    ·rw [if_pos c4] at H
     have c4b0 : decide (0 ≤ x5_1) = true := decide_eq_true c4
     clear c4
     by_cases c5 : ((rd_T26 l0 x5_1).f0) = x1_1
     ·rw [if_pos c5] at H
      have c5b0 : (((rd_T26 l0 x5_1).f0) == x1_1) = true := beq_iff_eq.mpr c5
      have c5b1 : (((rd_T26 l0 x5_1).f0) != x1_1) = false := bne_eq_false_iff_eq.mpr c5
      clear c5
      by_cases c6 : ((rd_T26 l0 x5_1).f1) = (wrap64 (x1_1 + 1))
      ·rw [if_pos c6] at H
       have c6b0 : (((rd_T26 l0 x5_1).f1) == (wrap64 (x1_1 + 1))) = true := beq_iff_eq.mpr c6
       have c6b1 : (((rd_T26 l0 x5_1).f1) != (wrap64 (x1_1 + 1))) = false := bne_eq_false_iff_eq.mpr c6
       clear c6
       have H' := Aside0.mk H
       clear H
       have p2138 : 0 ≤ (x5_1 : Int) := of_decide_eq_true (by first | (with_reducible assumption) | assumption)
       have q2138 : x5_1 < (l0.length : Int) := of_decide_eq_true (by first | (with_reducible assumption) | assumption)
       obtain ⟨ad2138, e2138, hx2138_0, hx2138_1⟩ := at_T26 HR0.out x5_1 p2138 q2138
       cases e2138
       replace p2138 := eq_true p2138
       replace q2138 := eq_true q2138
       have p2139 : 0 ≤ (x5_1 : Int) := of_decide_eq_true (by first | (with_reducible assumption) | assumption)
       have q2139 : x5_1 < (l0.length : Int) := of_decide_eq_true (by first | (with_reducible assumption) | assumption)
       obtain ⟨ad2139, e2139, hx2139_0, hx2139_1⟩ := at_T26 HR0.out x5_1 p2139 q2139
       obtain rfl : ad2138 = ad2139 := (by injection e2139)
       replace p2139 := eq_true p2139
       replace q2139 := eq_true q2139
       go_wp2
       go_roundg k1
       case measure => have := HK1.out; omega
       case rel => exact ⟨(wrap64 ((wrap64 (x1_1 + 1)) + 1)), (wrap64 (x5_1 + 1)), (by first | rfl | (simp; done) | (simp [*]; done)), (by first | rfl | (simp; done) | (simp [*]; done)), H', ⟨by have := HK1.out; omega⟩, by repeat (first | exact Drawn0.refl _ | apply Drawn0.step)⟩
      ·rw [if_neg c6] at H
       have c6b0 : (((rd_T26 l0 x5_1).f1) == (wrap64 (x1_1 + 1))) = false := beq_eq_false_iff_ne.mpr c6
       have c6b1 : (((rd_T26 l0 x5_1).f1) != (wrap64 (x1_1 + 1))) = true := bne_iff_ne.mpr c6
       obtain rfl := Option.some.inj H
       have p2138 : 0 ≤ (x5_1 : Int) := of_decide_eq_true (by first | (with_reducible assumption) | assumption)
       have q2138 : x5_1 < (l0.length : Int) := of_decide_eq_true (by first | (with_reducible assumption) | assumption)
       obtain ⟨ad2138, e2138, hx2138_0, hx2138_1⟩ := at_T26 HR0.out x5_1 p2138 q2138
       cases e2138
       replace p2138 := eq_true p2138
       replace q2138 := eq_true q2138
       have p2139 : 0 ≤ (x5_1 : Int) := of_decide_eq_true (by first | (with_reducible assumption) | assumption)
       have q2139 : x5_1 < (l0.length : Int) := of_decide_eq_true (by first | (with_reducible assumption) | assumption)
       obtain ⟨ad2139, e2139, hx2139_0, hx2139_1⟩ := at_T26 HR0.out x5_1 p2139 q2139
       obtain rfl : ad2138 = ad2139 := (by injection e2139)
       replace p2139 := eq_true p2139
       replace q2139 := eq_true q2139
       go_wp2
       go_ret
       exact ⟨by first | rfl | (simp; done) | (simp [*]; done), by repeat (first | exact Drawn0.refl _ | apply Drawn0.step)⟩
     ·rw [if_neg c5] at H
      have c5b0 : (((rd_T26 l0 x5_1).f0) == x1_1) = false := beq_eq_false_iff_ne.mpr c5
      have c5b1 : (((rd_T26 l0 x5_1).f0) != x1_1) = true := bne_iff_ne.mpr c5
      obtain rfl := Option.some.inj H
      have p2138 : 0 ≤ (x5_1 : Int) := of_decide_eq_true (by first | (with_reducible assumption) | assumption)
      have q2138 : x5_1 < (l0.length : Int) := of_decide_eq_true (by first | (with_reducible assumption) | assumption)
      obtain ⟨ad2138, e2138, hx2138_0, hx2138_1⟩ := at_T26 HR0.out x5_1 p2138 q2138
      cases e2138
      replace p2138 := eq_true p2138
      replace q2138 := eq_true q2138
      go_wp2
      go_ret
      exact ⟨by first | rfl | (simp; done) | (simp [*]; done), by repeat (first | exact Drawn0.refl _ | apply Drawn0.step)⟩
    ·rw [if_neg c4] at H
     exact absurd H (by simp)
   ·rw [if_neg c3] at H
    have c3b0 : decide (x5_1 < (l0.length : Int)) = false := decide_eq_false c3
    clear c3
    obtain rfl := Option.some.inj H
    go_wp2
    go_ret
    exact ⟨by first | rfl | (simp; done) | (simp [*]; done), by repeat (first | exact Drawn0.refl _ | apply Drawn0.step)⟩
end Go.Proofs.Ytphpdfcblchpnaa.Q
