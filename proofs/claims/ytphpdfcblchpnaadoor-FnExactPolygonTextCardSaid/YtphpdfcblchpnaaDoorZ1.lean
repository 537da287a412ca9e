/- Parts of the proof: printed texts, words and own texts, cut to what is used. -/
import Derived.ArgAppend
import Derived.Below
import Derived.BigQuiet
import Derived.Deep.AppendLies
import Derived.Deep.CutBlock
import Derived.Deep.DeepCutAuto
import Derived.Deep.Draws
import Derived.Deep.LoopGhost
import Derived.Deep.OwnRows
import Derived.Deep.QuietTactic
import Derived.Deep.RegionHeld3
import Derived.KernelRfl
import Derived.Laws.BitsLemmas
import Derived.Laws.BytesArg
import Derived.Laws.IdiomCopy
import Derived.Laws.MakeOwn
import Derived.Laws.OwnMore
import Derived.Laws.Rows
import Derived.Laws.Slices
import Derived.Lib.AppendStr
import Derived.Lib.ConvBytes
import Derived.Maps.AppendAt
import Derived.OrdersHeld
import Derived.OwnWalk
import Derived.RowKit
import Derived.RowKit3
import Derived.Tactics
import Derived.Test.YtphpdfcblchpnaaDoorProg
import Derived.WalkKit
import Derived.WideLaws
import Derived.Test.YtphpdfcblchpnaaDoorZ0
namespace Go.Proofs.YtphpdfcblchpnaaDoor.Q
open Go.RowKit Go.Proofs.YtphpdfcblchpnaaDoorW.PrintWords Go.Proofs.YtphpdfcblchpnaaDoorW.PrintLast Go.Proofs.YtphpdfcblchpnaaDoorW.PrintMore
attribute [local go_sem] max2_int min2_int max_two min_two max_three min_three max_four min_four   -- for this text's walks alone
set_option linter.unusedVariables false
set_option linter.unusedSimpArgs false
def errW : Option Int → Value
 | none => .nilIface
 | some c => .iface 0 (.int .i64 c)
theorem errW_none : errW none = .nilIface := rfl
theorem errW_some (c : Int) : errW (some c) = .iface 0 (.int .i64 c) := rfl
theorem info9 : (Tryd.prog.info? 9).map (fun i => (i.zero, i.size, i.bytes)) = some (some (.string ⟨#[]⟩), 1, 16) := by kernel_rfl
theorem info33 : (Tryd.prog.info? 33).map (fun i => (i.zero, i.size, i.bytes)) = some (some (.agg #[(.int .i64 0), (.int .i64 0)]), 2, 16) := by kernel_rfl
structure S35 where
 f0 : Int
 f1 : Int
def z35 : S35 := ⟨(0 : Int), (0 : Int)⟩
def k35 : Kd S35 := Kd.iso (Kd.pair (Kd.int .i64) (Kd.int .i64)) (fun x : S35 => (x.f0, x.f1))
theorem k35_open {w : World} {x : S35} {cs : List Value} (h : k35.K w x cs) : cs = [.int .i64 x.f0, .int .i64 x.f1] := by
 obtain ⟨_, _, rfl, rfl, rfl⟩ := h
 exact rfl
theorem k35_mk (w : World) (x : S35)  : k35.K w x [.int .i64 x.f0, .int .i64 x.f1] := ⟨[.int .i64 x.f0], [.int .i64 x.f1], rfl, rfl, rfl⟩
def rd_T35 (xs : List S35) (i : Int) : S35 := xs.getD i.toNat z35
theorem at_T35 {w : World} {A : Option Addr} {n : Nat} {xs : List S35} (h : Kd.C k35 w A n xs) (i : Int) (h0 : 0 ≤ i) (h1 : i < n) : ∃ ad , A = some ad ∧ w.cell? (ad.add (i.toNat * 2)) = some (.int .i64 (rd_T35 xs i).f0) ∧ w.cell? ⟨(ad.add (i.toNat * 2)).block, (ad.add (i.toNat * 2)).off + 1, none⟩ = some (.int .i64 (rd_T35 xs i).f1) := by
 obtain ⟨ad, c, e, _, hK, hc0⟩ := Kd.C_get h z35 i h0 h1
 have hc : ∀ j u, c[j]? = some u → w.cell? (ad.add (i.toNat * 2 + j)) = some u := hc0
 obtain rfl := k35_open hK
 exact ⟨ad, e, hc 0 _ rfl, by rw [← add_field _ _ 1 (by omega)]; exact hc 1 _ rfl⟩
structure S33 where
 f0 : Int
 f1 : Int
def z33 : S33 := ⟨(0 : Int), (0 : Int)⟩
def k33 : Kd S33 := Kd.iso (Kd.pair (Kd.int .i64) (Kd.int .i64)) (fun x : S33 => (x.f0, x.f1))
theorem k33_open {w : World} {x : S33} {cs : List Value} (h : k33.K w x cs) : cs = [.int .i64 x.f0, .int .i64 x.f1] := by
 obtain ⟨_, _, rfl, rfl, rfl⟩ := h
 exact rfl
theorem k33_openM {w : World} {base : Nat} {ok : Nat → Prop} {x : S33} {cs : List Value} (h : k33.M w base ok x cs) : cs = [.int .i64 x.f0, .int .i64 x.f1] := by
 obtain ⟨_, _, rfl, rfl, rfl⟩ := h
 exact rfl
theorem k33_mkM (w : World) (base : Nat) (ok : Nat → Prop) (x : S33)  : k33.M w base ok x [.int .i64 x.f0, .int .i64 x.f1] := ⟨[.int .i64 x.f0], [.int .i64 x.f1], rfl, rfl, rfl⟩
def rd_T33 (xs : List S33) (i : Int) : S33 := xs.getD i.toNat z33
theorem at_T33 {w : World} {A : Option Addr} {n : Nat} {xs : List S33} (h : Kd.C k33 w A n xs) (i : Int) (h0 : 0 ≤ i) (h1 : i < n) : ∃ ad , A = some ad ∧ w.cell? (ad.add (i.toNat * 2)) = some (.int .i64 (rd_T33 xs i).f0) ∧ w.cell? ⟨(ad.add (i.toNat * 2)).block, (ad.add (i.toNat * 2)).off + 1, none⟩ = some (.int .i64 (rd_T33 xs i).f1) := by
 obtain ⟨ad, c, e, _, hK, hc0⟩ := Kd.C_get h z33 i h0 h1
 have hc : ∀ j u, c[j]? = some u → w.cell? (ad.add (i.toNat * 2 + j)) = some u := hc0
 obtain rfl := k33_open hK
 exact ⟨ad, e, hc 0 _ rfl, by rw [← add_field _ _ 1 (by omega)]; exact hc 1 _ rfl⟩
theorem zb {p : Prop} (h : p := by repeat (first | (with_reducible first | exact HB.out | apply below_alloc | apply pw_below_drewN | apply below_drew1 | refine below_set ?_ (Aside0.out (by assumption))) | exact HB.out)) : p := h
theorem zk {p : Prop} (h : p := by (with_reducible repeat (first | refine blk_drewN ?_ _ | refine blk_drew ?_ | refine blk_alloc ?_ _)); exact Aside0.out (by assumption)) : p := h
theorem zc {w w' : World} {p : Addr} {v : Value} (hb : Aside0 (Below w.heap.size w w')) (h : w.cell? p = some v) : w'.cell? p = some v := (hb.out.cell (World.block_lt_of_cell? w _ h)).trans h
theorem zs {p : Prop} (h : p := by simp only [Act.put, List.setIfInBounds_toArray, List.set_cons_zero, List.set_cons_succ, i64_w, i32_w]; rfl) : p := h
theorem zn {p : Prop} (h : p := by (try simp only [List.map_toArray, List.map_cons, List.map_nil]); first | done | rfl | (simp only [List.length_drop, List.length_take]; rfl)) : p := h
def zl (n k : Nat) : Array Bool := ((List.range n).map fun i => k.testBit i).toArray
theorem zp {P : Program} {md : Region.Mode} {ops : Array Oper} {T : Bool × List (List Nat × List Nat)} {Q : Exit → Act → World → Prop} {S : World → Prop} {ds : List Nat} {oi : Oper} {v : Value} {fuel : Nat} {l : Array Bool} {a a' : Act} {w : World}
    (i : Nat) (N : Nat) (n k : Nat) (HT : Aside0 (rtab md ops = T)) (h : wpAnyLast P md ops Q S ds fuel (zl n k) a' w) (hi : ops[i]? = some oi := by rfl) (hN : oi.dst = some N := by rfl)
    (hc : anyT T l.toList (zl n k).toList i = true := by kernel_rfl) (hQ : ∀ c a w, Q (.panic c) (a.put oi.dst v) w → Q (.panic c) a w := by exact fun _ _ _ h => h)
    (hw : Region.wanted oi (yielded ops a.tmps) = true := by rfl) (hy : ∀ w', (execOp a.eval oi).run P w' = .ok (.value v) w' := by intro w'; go_simp; with_reducible rfl)
    (ha : a.put (some N) v = a' := by simp only [Act.put, List.setIfInBounds_toArray, List.set_cons_zero, List.set_cons_succ, i64_w, i32_w]; rfl) : wpAnyLast P md ops Q S ds (fuel + 1) l a w :=
  pure_ (zl n k) hi hN (any_of HT.out hc) hQ (Or.inl ⟨hw, hy⟩) ha h
end Go.Proofs.YtphpdfcblchpnaaDoor.Q
namespace Go.Proofs.YtphpdfcblchpnaaDoor.Q
open Go.RowKit Go.Proofs.YtphpdfcblchpnaaDoorW.PrintWords Go.Proofs.YtphpdfcblchpnaaDoorW.PrintLast Go.Proofs.YtphpdfcblchpnaaDoorW.PrintMore
attribute [local go_sem] max2_int min2_int max_two min_two max_three min_three max_four min_four   -- for this text's walks alone
set_option linter.unusedVariables false
set_option linter.unusedSimpArgs false
theorem eqA33 (d : Nat) (w : World) (x0 y0 : Int) (x1 y1 : Int) :
  (Op.equalIn (d + 2) 33 (.agg #[.int .i64 x0, .int .i64 x1]) (.agg #[.int .i64 y0, .int .i64 y1])).run Tryd.prog w = .ok (x0 == y0 && (x1 == y1)) w := by
 refine eqA_of Tryd.underlying33 (by kernel_rfl) ?_
 refine eqf_cons (by rfl) (by go_simp; rfl) (by go_simp; rfl) (by go_simp) ?_
 exact eqf_last (by rfl) (by go_simp; rfl) (by go_simp; rfl) (by go_simp)
end Go.Proofs.YtphpdfcblchpnaaDoor.Q
namespace Go.Proofs.YtphpdfcblchpnaaDoor.Q
open Go.RowKit Go.Proofs.YtphpdfcblchpnaaDoorW.PrintWords Go.Proofs.YtphpdfcblchpnaaDoorW.PrintLast Go.Proofs.YtphpdfcblchpnaaDoorW.PrintMore
attribute [local go_sem] max2_int min2_int max_two min_two max_three min_three max_four min_four   -- for this text's walks alone
set_option linter.unusedVariables false
set_option linter.unusedSimpArgs false
def laws_szPegS.f (l0 : List (S35)) (a1 : Int) : Option (Int) := if (wrap64 (a1 - (l0.length : Int))) < 0 then (some (-1)) else (some (wrap64 (a1 - (l0.length : Int))))
set_option maxHeartbeats 8000000 in
set_option maxRecDepth 100000 in
theorem laws_szPegS.calls (A0 : Option Addr) (c0 : Nat) (l0 : List (S35)) (a1 : Int) (r : Int) (w : World) (hr0 : Kd.C k35 w A0 l0.length l0) (hc0 : l0.length ≤ c0) (h : laws_szPegS.f l0 a1 = some r) :
  Calls Tryd.prog 4 #[.slice A0 l0.length c0, .int .i64 a1] w fun e w' => e = .returned (.int .i64 r) ∧ Drawn0 w w' := by
 have HR0 := Aside0.mk hr0
 have HC0 := Aside0.mk hc0
 clear hr0 hc0
 have H : (if (wrap64 (a1 - (l0.length : Int))) < 0 then (some (-1)) else (some (wrap64 (a1 - (l0.length : Int))))) = some r := h
 clear h
 by_cases c3 : (wrap64 (a1 - (l0.length : Int))) < 0
 ·rw [if_pos c3] at H
  have c3b0 : decide ((wrap64 (a1 - (l0.length : Int))) < 0) = true := decide_eq_true c3
  clear c3
  obtain rfl := Option.some.inj H
  go_enter Tryd.func4, Tryd.ntmps4
  go_wp2
  go_ret
  exact ⟨by first | rfl | (simp; done) | (simp [*]; done), by repeat (first | exact Drawn0.refl _ | apply Drawn0.step)⟩
 ·rw [if_neg c3] at H
  have c3b0 : decide ((wrap64 (a1 - (l0.length : Int))) < 0) = false := decide_eq_false c3
  clear c3
  obtain rfl := Option.some.inj H
  go_enter Tryd.func4, Tryd.ntmps4
  go_wp2
  go_ret
  exact ⟨by first | rfl | (simp; done) | (simp [*]; done), by repeat (first | exact Drawn0.refl _ | apply Drawn0.step)⟩
def spec_l1In.f (a0 : Int) (a1 : Int) (a2 : Int) : Option (Bool) := if a0 ≥ a1 then (some (decide (a0 ≤ a2))) else (some false)
set_option maxHeartbeats 8000000 in
set_option maxRecDepth 100000 in
theorem spec_l1In.calls (a0 : Int) (a1 : Int) (a2 : Int) (r : Bool) (w : World) (h : spec_l1In.f a0 a1 a2 = some r) :
  Calls Tryd.prog 15 #[.int .i64 a0, .int .i64 a1, .int .i64 a2] w fun e w' => e = .returned (.bool r) ∧ Drawn0 w w' := by
 have H : (if a0 ≥ a1 then (some (decide (a0 ≤ a2))) else (some false)) = some r := h
 clear h
 by_cases c4 : a0 ≥ a1
 ·rw [if_pos c4] at H
  have c4b0 : decide (a1 ≤ a0) = true := decide_eq_true c4
  clear c4
  obtain rfl := Option.some.inj H
  go_enter Tryd.func15, Tryd.ntmps15
  go_wp2
  go_ret
  exact ⟨by first | rfl | (simp; done) | (simp [*]; done), by repeat (first | exact Drawn0.refl _ | apply Drawn0.step)⟩
 ·rw [if_neg c4] at H
  have c4b0 : decide (a1 ≤ a0) = false := decide_eq_false c4
  clear c4
  obtain rfl := Option.some.inj H
  go_enter Tryd.func15, Tryd.ntmps15
  go_wp2
  go_ret
  exact ⟨by first | rfl | (simp; done) | (simp [*]; done), by repeat (first | exact Drawn0.refl _ | apply Drawn0.step)⟩
def spec_pgIs.f (a0_0 : Int) (a0_1 : Int) : Option (Bool) := (spec_l1In.f a0_0 (-40) 40).bind fun t102 => (if t102 = true then ((spec_l1In.f a0_1 (-40) 40).bind fun t103 => (some t103)) else (some false))
set_option maxHeartbeats 8000000 in
set_option maxRecDepth 100000 in
theorem spec_pgIs.calls (a0_0 : Int) (a0_1 : Int) (r : Bool) (w : World) (h : spec_pgIs.f a0_0 a0_1 = some r) :
  Calls Tryd.prog 16 #[.agg #[.int .i64 a0_0, .int .i64 a0_1]] w fun e w' => e = .returned (.bool r) ∧ Below w.heap.size w w' := by
 have hu33 := Tryd.underlying33
 have HB := Aside0.mk (Below.refl w.heap.size w)
 have H : ((spec_l1In.f a0_0 (-40) 40).bind fun t102 => (if t102 = true then ((spec_l1In.f a0_1 (-40) 40).bind fun t103 => (some t103)) else (some false))) = some r := h
 clear h
 replace H := Option.bind_eq_some_iff.mp H
 obtain ⟨t102, A20, H⟩ := H
 replace H : (if t102 = true then ((spec_l1In.f a0_1 (-40) 40).bind fun t103 => (some t103)) else (some false)) = some r := H
 have A2 := Aside0.mk A20
 clear A20
 by_cases c3 : t102 = true
 ·subst c3
  have H1 : ((spec_l1In.f a0_1 (-40) 40).bind fun t103 => (some t103)) = some r := by rw [if_pos rfl] at H; exact H
  clear H
  have H := H1
  clear H1
  replace H := Option.bind_eq_some_iff.mp H
  obtain ⟨t103, A40, H⟩ := H
  replace H : (some t103) = some r := H
  have A4 := Aside0.mk A40
  clear A40
  obtain rfl := Option.some.inj H
  go_enter Tryd.func16, Tryd.ntmps16
  go_wp2_with (first | ((with_reducible refine gate_dst (N := 1) rfl ?_); refine box_event ?hg (N := 1) ?hd (cs := #[.int .i64 a0_0, .int .i64 a0_1]) (t := 33) ?hr ?_; (case hd => rfl); (case hg => rfl); (case hr => first | (go_simp; done) | (go_simp; rfl)); intro gb101 hg w5 hbox hb; have n0_ := Aside0.mk (below_step zb hb); have n1_ := Aside0.mk (hbox); have n2_ := Aside0.mk ((by rw [hg]; exact (below_size zb) : w.heap.size ≤ gb101)); have n3_ := Aside0.mk ((by rw [hg]; exact (below_size zb) : w.heap.size ≤ gb101)); clear HB; have HB := n0_; have BK101 := n1_; have GW101 := n2_; have GE101 := n3_; clear n0_ n1_ n2_ n3_; clear hb hbox hg; have hcz6_0 : w5.cell? ⟨gb101, 0, none⟩ = some (.int .i64 a0_0) := (blk_cell BK101.out 0).trans rfl; have hcz6_1 : w5.cell? ⟨gb101, 1, none⟩ = some (.int .i64 a0_1) := (blk_cell BK101.out 1).trans rfl; have hfz6_0 := blk_frozen BK101.out 0; have hfz6_1 := blk_frozen BK101.out 1) | ((with_reducible refine gate_callee (f := 15) rfl ?_); refine goesL_ (some 5) rfl rfl Tryd.func15 (by kernel_rfl) rfl #[.int .i64 a0_0, .int .i64 (-40), .int .i64 40] rfl zn ?_; (with_reducible refine (spec_l1In.calls a0_0 (-40) 40 true _ A2.out).mono ?_); rintro e w' ⟨rfl, ⟨nd, rfl⟩⟩; refine ⟨_, rfl, ?_⟩) | (go_at_call 15; (with_reducible refine (spec_l1In.calls a0_1 (-40) 40 t103 _ A4.out).mono ?_); rintro e w' ⟨rfl, ⟨nd, rfl⟩⟩))
  go_ret
  exact ⟨by first | rfl | (simp [errW_none, errW_some] <;> rfl) | (simp [*, errW_none, errW_some] <;> rfl), zb⟩
 ·replace c3 := Bool.eq_false_iff.mpr c3
  subst c3
  have H1 : (some false) = some r := by rw [if_neg (show ¬ (false = true) by decide)] at H; exact H
  clear H
  have H := H1
  clear H1
  obtain rfl := Option.some.inj H
  go_enter Tryd.func16, Tryd.ntmps16
  go_wp2_with (first | ((with_reducible refine gate_dst (N := 1) rfl ?_); refine box_event ?hg (N := 1) ?hd (cs := #[.int .i64 a0_0, .int .i64 a0_1]) (t := 33) ?hr ?_; (case hd => rfl); (case hg => rfl); (case hr => first | (go_simp; done) | (go_simp; rfl)); intro gb101 hg w7 hbox hb; have n0_ := Aside0.mk (below_step zb hb); have n1_ := Aside0.mk (hbox); have n2_ := Aside0.mk ((by rw [hg]; exact (below_size zb) : w.heap.size ≤ gb101)); have n3_ := Aside0.mk ((by rw [hg]; exact (below_size zb) : w.heap.size ≤ gb101)); clear HB; have HB := n0_; have BK101 := n1_; have GW101 := n2_; have GE101 := n3_; clear n0_ n1_ n2_ n3_; clear hb hbox hg; have hcz8_0 : w7.cell? ⟨gb101, 0, none⟩ = some (.int .i64 a0_0) := (blk_cell BK101.out 0).trans rfl; have hcz8_1 : w7.cell? ⟨gb101, 1, none⟩ = some (.int .i64 a0_1) := (blk_cell BK101.out 1).trans rfl; have hfz8_0 := blk_frozen BK101.out 0; have hfz8_1 := blk_frozen BK101.out 1) | ((with_reducible refine gate_callee (f := 15) rfl ?_); refine goesL_ (some 5) rfl rfl Tryd.func15 (by kernel_rfl) rfl #[.int .i64 a0_0, .int .i64 (-40), .int .i64 40] rfl zn ?_; (with_reducible refine (spec_l1In.calls a0_0 (-40) 40 false _ A2.out).mono ?_); rintro e w' ⟨rfl, ⟨nd, rfl⟩⟩; refine ⟨_, rfl, ?_⟩))
  go_ret
  exact ⟨by first | rfl | (simp [errW_none, errW_some] <;> rfl) | (simp [*, errW_none, errW_some] <;> rfl), zb⟩
def spec_pgTurn.f (a0_0 : Int) (a0_1 : Int) (a1_0 : Int) (a1_1 : Int) (a2_0 : Int) (a2_1 : Int) : Option (Int) := some (wrap64 ((wrap64 ((wrap64 (a1_0 - a0_0)) * (wrap64 (a2_1 - a0_1)))) - (wrap64 ((wrap64 (a1_1 - a0_1)) * (wrap64 (a2_0 - a0_0))))))
set_option maxHeartbeats 8000000 in
set_option maxRecDepth 100000 in
theorem spec_pgTurn.calls (a0_0 : Int) (a0_1 : Int) (a1_0 : Int) (a1_1 : Int) (a2_0 : Int) (a2_1 : Int) (r : Int) (w : World) (h : spec_pgTurn.f a0_0 a0_1 a1_0 a1_1 a2_0 a2_1 = some r) :
  Calls Tryd.prog 17 #[.agg #[.int .i64 a0_0, .int .i64 a0_1], .agg #[.int .i64 a1_0, .int .i64 a1_1], .agg #[.int .i64 a2_0, .int .i64 a2_1]] w fun e w' => e = .returned (.int .i64 r) ∧ Below w.heap.size w w' := by
 have hu33 := Tryd.underlying33
 have HB := Aside0.mk (Below.refl w.heap.size w)
 have H : (some (wrap64 ((wrap64 ((wrap64 (a1_0 - a0_0)) * (wrap64 (a2_1 - a0_1)))) - (wrap64 ((wrap64 (a1_1 - a0_1)) * (wrap64 (a2_0 - a0_0))))))) = some r := h
 clear h
 obtain rfl := Option.some.inj H
 go_enter Tryd.func17, Tryd.ntmps17
 go_wp2_with (first | ((with_reducible refine gate_dst (N := 3) rfl ?_); refine box_event ?hg (N := 3) ?hd (cs := #[.int .i64 a0_0, .int .i64 a0_1]) (t := 33) ?hr ?_; (case hd => rfl); (case hg => rfl); (case hr => first | (go_simp; done) | (go_simp; rfl)); intro gb104 hg w4 hbox hb; have n0_ := Aside0.mk (below_step zb hb); have n1_ := Aside0.mk (hbox); have n2_ := Aside0.mk ((by rw [hg]; exact (below_size zb) : w.heap.size ≤ gb104)); have n3_ := Aside0.mk ((by rw [hg]; exact (below_size zb) : w.heap.size ≤ gb104)); clear HB; have HB := n0_; have BK104 := n1_; have GW104 := n2_; have GE104 := n3_; clear n0_ n1_ n2_ n3_; clear hb hbox hg) | ((with_reducible refine gate_dst (N := 4) rfl ?_); refine box_event ?hg (N := 4) ?hd (cs := #[.int .i64 a1_0, .int .i64 a1_1]) (t := 33) ?hr ?_; (case hd => rfl); (case hg => rfl); (case hr => first | (go_simp; done) | (go_simp; rfl)); intro gb105 hg w5 hbox hb; have n0_ := Aside0.mk (blk_below (g := gb104) (o := .cells #[.int .i64 a0_0, .int .i64 a0_1] 33 (0, 0)) zk hb); have n1_ := Aside0.mk (below_step zb hb); have n2_ := Aside0.mk (hbox); have n3_ := Aside0.mk ((by rw [hg]; exact (below_size zb) : w.heap.size ≤ gb105)); have n4_ := Aside0.mk ((by rw [hg]; exact (below_size zb) : w.heap.size ≤ gb105)); have n5_ := Aside0.mk ((by rw [hg]; exact Nat.ne_of_lt (blk_lt (g := gb104) (o := .cells #[.int .i64 a0_0, .int .i64 a0_1] 33 (0, 0)) zk) : gb104 ≠ gb105)); have n6_ := Aside0.mk ((by rw [hg]; exact Nat.ne_of_gt (blk_lt (g := gb104) (o := .cells #[.int .i64 a0_0, .int .i64 a0_1] 33 (0, 0)) zk) : gb105 ≠ gb104)); clear BK104; clear HB; have BK104 := n0_; have HB := n1_; have BK105 := n2_; have GW105 := n3_; have GE105 := n4_; have NB104_105 := n5_; have NB105_104 := n6_; clear n0_ n1_ n2_ n3_ n4_ n5_ n6_; clear hb hbox hg) | ((with_reducible refine gate_dst (N := 5) rfl ?_); refine box_event ?hg (N := 5) ?hd (cs := #[.int .i64 a2_0, .int .i64 a2_1]) (t := 33) ?hr ?_; (case hd => rfl); (case hg => rfl); (case hr => first | (go_simp; done) | (go_simp; rfl)); intro gb106 hg w6 hbox hb; have n0_ := Aside0.mk (blk_below (g := gb104) (o := .cells #[.int .i64 a0_0, .int .i64 a0_1] 33 (0, 0)) zk hb); have n1_ := Aside0.mk (blk_below (g := gb105) (o := .cells #[.int .i64 a1_0, .int .i64 a1_1] 33 (0, 0)) zk hb); have n2_ := Aside0.mk (below_step zb hb); have n3_ := Aside0.mk (hbox); have n4_ := Aside0.mk ((by rw [hg]; exact (below_size zb) : w.heap.size ≤ gb106)); have n5_ := Aside0.mk ((by rw [hg]; exact (below_size zb) : w.heap.size ≤ gb106)); have n6_ := Aside0.mk ((by rw [hg]; exact Nat.ne_of_lt (blk_lt (g := gb104) (o := .cells #[.int .i64 a0_0, .int .i64 a0_1] 33 (0, 0)) zk) : gb104 ≠ gb106)); have n7_ := Aside0.mk ((by rw [hg]; exact Nat.ne_of_gt (blk_lt (g := gb104) (o := .cells #[.int .i64 a0_0, .int .i64 a0_1] 33 (0, 0)) zk) : gb106 ≠ gb104)); have n8_ := Aside0.mk ((by rw [hg]; exact Nat.ne_of_lt (blk_lt (g := gb105) (o := .cells #[.int .i64 a1_0, .int .i64 a1_1] 33 (0, 0)) zk) : gb105 ≠ gb106)); have n9_ := Aside0.mk ((by rw [hg]; exact Nat.ne_of_gt (blk_lt (g := gb105) (o := .cells #[.int .i64 a1_0, .int .i64 a1_1] 33 (0, 0)) zk) : gb106 ≠ gb105)); clear BK104; clear BK105; clear HB; have BK104 := n0_; have BK105 := n1_; have HB := n2_; have BK106 := n3_; have GW106 := n4_; have GE106 := n5_; have NB104_106 := n6_; have NB106_104 := n7_; have NB105_106 := n8_; have NB106_105 := n9_; clear n0_ n1_ n2_ n3_ n4_ n5_ n6_ n7_ n8_ n9_; clear hb hbox hg; have hnb7 := NB105_104.out; have hnc7 := NB104_105.out; have hnb8 := NB105_106.out; have hnc8 := NB106_105.out; have hcz9_0 : w6.cell? ⟨gb105, 0, none⟩ = some (.int .i64 a1_0) := (blk_cell BK105.out 0).trans rfl; have hcz9_1 : w6.cell? ⟨gb105, 1, none⟩ = some (.int .i64 a1_1) := (blk_cell BK105.out 1).trans rfl; have hfz9_0 := blk_frozen BK105.out 0; have hfz9_1 := blk_frozen BK105.out 1; have hnb10 := NB104_106.out; have hnc10 := NB106_104.out; have hcz11_0 : w6.cell? ⟨gb104, 0, none⟩ = some (.int .i64 a0_0) := (blk_cell BK104.out 0).trans rfl; have hcz11_1 : w6.cell? ⟨gb104, 1, none⟩ = some (.int .i64 a0_1) := (blk_cell BK104.out 1).trans rfl; have hfz11_0 := blk_frozen BK104.out 0; have hfz11_1 := blk_frozen BK104.out 1; have hcz12_0 : w6.cell? ⟨gb106, 0, none⟩ = some (.int .i64 a2_0) := (blk_cell BK106.out 0).trans rfl; have hcz12_1 : w6.cell? ⟨gb106, 1, none⟩ = some (.int .i64 a2_1) := (blk_cell BK106.out 1).trans rfl; have hfz12_0 := blk_frozen BK106.out 0; have hfz12_1 := blk_frozen BK106.out 1))
 go_ret
 exact ⟨by first | rfl | (simp [errW_none, errW_some] <;> rfl) | (simp [*, errW_none, errW_some] <;> rfl), zb⟩
def spec_pgOn.f (a0_0 : Int) (a0_1 : Int) (a1_0 : Int) (a1_1 : Int) (a2_0 : Int) (a2_1 : Int) : Option (Bool) := (spec_pgTurn.f a0_0 a0_1 a1_0 a1_1 a2_0 a2_1).bind fun t110 => (if t110 = 0 then (if (wrap64 ((wrap64 (a0_0 - a2_0)) * (wrap64 (a1_0 - a2_0)))) ≤ 0 then (some (decide ((wrap64 ((wrap64 (a0_1 - a2_1)) * (wrap64 (a1_1 - a2_1)))) ≤ 0))) else (some false)) else (some false))
set_option maxHeartbeats 8000000 in
set_option maxRecDepth 100000 in
theorem spec_pgOn.calls (a0_0 : Int) (a0_1 : Int) (a1_0 : Int) (a1_1 : Int) (a2_0 : Int) (a2_1 : Int) (r : Bool) (w : World) (h : spec_pgOn.f a0_0 a0_1 a1_0 a1_1 a2_0 a2_1 = some r) :
  Calls Tryd.prog 28 #[.agg #[.int .i64 a0_0, .int .i64 a0_1], .agg #[.int .i64 a1_0, .int .i64 a1_1], .agg #[.int .i64 a2_0, .int .i64 a2_1]] w fun e w' => e = .returned (.bool r) ∧ Below w.heap.size w w' := by
 have hu33 := Tryd.underlying33
 have HB := Aside0.mk (Below.refl w.heap.size w)
 have H : ((spec_pgTurn.f a0_0 a0_1 a1_0 a1_1 a2_0 a2_1).bind fun t110 => (if t110 = 0 then (if (wrap64 ((wrap64 (a0_0 - a2_0)) * (wrap64 (a1_0 - a2_0)))) ≤ 0 then (some (decide ((wrap64 ((wrap64 (a0_1 - a2_1)) * (wrap64 (a1_1 - a2_1)))) ≤ 0))) else (some false)) else (some false))) = some r := h
 clear h
 replace H := Option.bind_eq_some_iff.mp H
 obtain ⟨t110, A40, H⟩ := H
 replace H : (if t110 = 0 then (if (wrap64 ((wrap64 (a0_0 - a2_0)) * (wrap64 (a1_0 - a2_0)))) ≤ 0 then (some (decide ((wrap64 ((wrap64 (a0_1 - a2_1)) * (wrap64 (a1_1 - a2_1)))) ≤ 0))) else (some false)) else (some false)) = some r := H
 have A4 := Aside0.mk A40
 clear A40
 by_cases c5 : t110 = 0
 ·rw [if_pos c5] at H
  have c5b0 : (t110 == 0) = true := beq_iff_eq.mpr c5
  have c5b1 : (t110 != 0) = false := bne_eq_false_iff_eq.mpr c5
  clear c5
  by_cases c6 : (wrap64 ((wrap64 (a0_0 - a2_0)) * (wrap64 (a1_0 - a2_0)))) ≤ 0
  ·rw [if_pos c6] at H
   have c6b0 : decide ((wrap64 ((wrap64 (a0_0 - a2_0)) * (wrap64 (a1_0 - a2_0)))) ≤ 0) = true := decide_eq_true c6
   clear c6
   obtain rfl := Option.some.inj H
   go_enter Tryd.func28, Tryd.ntmps28
   go_wp2_with (first | ((with_reducible refine gate_dst (N := 3) rfl ?_); refine box_event ?hg (N := 3) ?hd (cs := #[.int .i64 a0_0, .int .i64 a0_1]) (t := 33) ?hr ?_; (case hd => rfl); (case hg => rfl); (case hr => first | (go_simp; done) | (go_simp; rfl)); intro gb107 hg w7 hbox hb; have n0_ := Aside0.mk (below_step zb hb); have n1_ := Aside0.mk (hbox); have n2_ := Aside0.mk ((by rw [hg]; exact (below_size zb) : w.heap.size ≤ gb107)); have n3_ := Aside0.mk ((by rw [hg]; exact (below_size zb) : w.heap.size ≤ gb107)); clear HB; have HB := n0_; have BK107 := n1_; have GW107 := n2_; have GE107 := n3_; clear n0_ n1_ n2_ n3_; clear hb hbox hg) | ((with_reducible refine gate_dst (N := 4) rfl ?_); refine box_event ?hg (N := 4) ?hd (cs := #[.int .i64 a1_0, .int .i64 a1_1]) (t := 33) ?hr ?_; (case hd => rfl); (case hg => rfl); (case hr => first | (go_simp; done) | (go_simp; rfl)); intro gb108 hg w8 hbox hb; have n0_ := Aside0.mk (blk_below (g := gb107) (o := .cells #[.int .i64 a0_0, .int .i64 a0_1] 33 (0, 0)) zk hb); have n1_ := Aside0.mk (below_step zb hb); have n2_ := Aside0.mk (hbox); have n3_ := Aside0.mk ((by rw [hg]; exact (below_size zb) : w.heap.size ≤ gb108)); have n4_ := Aside0.mk ((by rw [hg]; exact (below_size zb) : w.heap.size ≤ gb108)); have n5_ := Aside0.mk ((by rw [hg]; exact Nat.ne_of_lt (blk_lt (g := gb107) (o := .cells #[.int .i64 a0_0, .int .i64 a0_1] 33 (0, 0)) zk) : gb107 ≠ gb108)); have n6_ := Aside0.mk ((by rw [hg]; exact Nat.ne_of_gt (blk_lt (g := gb107) (o := .cells #[.int .i64 a0_0, .int .i64 a0_1] 33 (0, 0)) zk) : gb108 ≠ gb107)); clear BK107; clear HB; have BK107 := n0_; have HB := n1_; have BK108 := n2_; have GW108 := n3_; have GE108 := n4_; have NB107_108 := n5_; have NB108_107 := n6_; clear n0_ n1_ n2_ n3_ n4_ n5_ n6_; clear hb hbox hg) | ((with_reducible refine gate_dst (N := 5) rfl ?_); refine box_event ?hg (N := 5) ?hd (cs := #[.int .i64 a2_0, .int .i64 a2_1]) (t := 33) ?hr ?_; (case hd => rfl); (case hg => rfl); (case hr => first | (go_simp; done) | (go_simp; rfl)); intro gb109 hg w9 hbox hb; have n0_ := Aside0.mk (blk_below (g := gb107) (o := .cells #[.int .i64 a0_0, .int .i64 a0_1] 33 (0, 0)) zk hb); have n1_ := Aside0.mk (blk_below (g := gb108) (o := .cells #[.int .i64 a1_0, .int .i64 a1_1] 33 (0, 0)) zk hb); have n2_ := Aside0.mk (below_step zb hb); have n3_ := Aside0.mk (hbox); have n4_ := Aside0.mk ((by rw [hg]; exact (below_size zb) : w.heap.size ≤ gb109)); have n5_ := Aside0.mk ((by rw [hg]; exact (below_size zb) : w.heap.size ≤ gb109)); have n6_ := Aside0.mk ((by rw [hg]; exact Nat.ne_of_lt (blk_lt (g := gb107) (o := .cells #[.int .i64 a0_0, .int .i64 a0_1] 33 (0, 0)) zk) : gb107 ≠ gb109)); have n7_ := Aside0.mk ((by rw [hg]; exact Nat.ne_of_gt (blk_lt (g := gb107) (o := .cells #[.int .i64 a0_0, .int .i64 a0_1] 33 (0, 0)) zk) : gb109 ≠ gb107)); have n8_ := Aside0.mk ((by rw [hg]; exact Nat.ne_of_lt (blk_lt (g := gb108) (o := .cells #[.int .i64 a1_0, .int .i64 a1_1] 33 (0, 0)) zk) : gb108 ≠ gb109)); have n9_ := Aside0.mk ((by rw [hg]; exact Nat.ne_of_gt (blk_lt (g := gb108) (o := .cells #[.int .i64 a1_0, .int .i64 a1_1] 33 (0, 0)) zk) : gb109 ≠ gb108)); clear BK107; clear BK108; clear HB; have BK107 := n0_; have BK108 := n1_; have HB := n2_; have BK109 := n3_; have GW109 := n4_; have GE109 := n5_; have NB107_109 := n6_; have NB109_107 := n7_; have NB108_109 := n8_; have NB109_108 := n9_; clear n0_ n1_ n2_ n3_ n4_ n5_ n6_ n7_ n8_ n9_; clear hb hbox hg; have hnb10 := NB107_108.out; have hnc10 := NB108_107.out; have hnb11 := NB107_109.out; have hnc11 := NB109_107.out; have hcz12_0 : w9.cell? ⟨gb107, 0, none⟩ = some (.int .i64 a0_0) := (blk_cell BK107.out 0).trans rfl; have hcz12_1 : w9.cell? ⟨gb107, 1, none⟩ = some (.int .i64 a0_1) := (blk_cell BK107.out 1).trans rfl; have hfz12_0 := blk_frozen BK107.out 0; have hfz12_1 := blk_frozen BK107.out 1; have hnb13 := NB108_109.out; have hnc13 := NB109_108.out; have hcz14_0 : w9.cell? ⟨gb108, 0, none⟩ = some (.int .i64 a1_0) := (blk_cell BK108.out 0).trans rfl; have hcz14_1 : w9.cell? ⟨gb108, 1, none⟩ = some (.int .i64 a1_1) := (blk_cell BK108.out 1).trans rfl; have hfz14_0 := blk_frozen BK108.out 0; have hfz14_1 := blk_frozen BK108.out 1; have hcz15_0 : w9.cell? ⟨gb109, 0, none⟩ = some (.int .i64 a2_0) := (blk_cell BK109.out 0).trans rfl; have hcz15_1 : w9.cell? ⟨gb109, 1, none⟩ = some (.int .i64 a2_1) := (blk_cell BK109.out 1).trans rfl; have hfz15_0 := blk_frozen BK109.out 0; have hfz15_1 := blk_frozen BK109.out 1) | ((with_reducible refine gate_callee (f := 17) rfl ?_); refine goesL_ (some 10) rfl rfl Tryd.func17 (by kernel_rfl) rfl #[.agg #[.int .i64 a0_0, .int .i64 a0_1], .agg #[.int .i64 a1_0, .int .i64 a1_1], .agg #[.int .i64 a2_0, .int .i64 a2_1]] rfl zn ?_; (with_reducible refine (spec_pgTurn.calls a0_0 a0_1 a1_0 a1_1 a2_0 a2_1 t110 _ A4.out).mono ?_); rintro e w16 ⟨rfl, hb⟩; refine ⟨_, rfl, ?_⟩; have n0_ := Aside0.mk (blk_below (g := gb107) (o := .cells #[.int .i64 a0_0, .int .i64 a0_1] 33 (0, 0)) zk hb); have n1_ := Aside0.mk (blk_below (g := gb108) (o := .cells #[.int .i64 a1_0, .int .i64 a1_1] 33 (0, 0)) zk hb); have n2_ := Aside0.mk (blk_below (g := gb109) (o := .cells #[.int .i64 a2_0, .int .i64 a2_1] 33 (0, 0)) zk hb); have n3_ := Aside0.mk (below_step zb hb); clear BK107; clear BK108; clear BK109; clear HB; have BK107 := n0_; have BK108 := n1_; have BK109 := n2_; have HB := n3_; clear n0_ n1_ n2_ n3_; (try clear hb); (try clear hb2); (try clear hk); (try clear hi); have hcz17_0 : w16.cell? ⟨gb107, 0, none⟩ = some (.int .i64 a0_0) := (blk_cell BK107.out 0).trans rfl; have hcz17_1 : w16.cell? ⟨gb107, 1, none⟩ = some (.int .i64 a0_1) := (blk_cell BK107.out 1).trans rfl; have hfz17_0 := blk_frozen BK107.out 0; have hfz17_1 := blk_frozen BK107.out 1; have hcz18_0 : w16.cell? ⟨gb109, 0, none⟩ = some (.int .i64 a2_0) := (blk_cell BK109.out 0).trans rfl; have hcz18_1 : w16.cell? ⟨gb109, 1, none⟩ = some (.int .i64 a2_1) := (blk_cell BK109.out 1).trans rfl; have hfz18_0 := blk_frozen BK109.out 0; have hfz18_1 := blk_frozen BK109.out 1; have hcz19_0 : w16.cell? ⟨gb108, 0, none⟩ = some (.int .i64 a1_0) := (blk_cell BK108.out 0).trans rfl; have hcz19_1 : w16.cell? ⟨gb108, 1, none⟩ = some (.int .i64 a1_1) := (blk_cell BK108.out 1).trans rfl; have hfz19_0 := blk_frozen BK108.out 0; have hfz19_1 := blk_frozen BK108.out 1))
   go_ret
   exact ⟨by first | rfl | (simp [errW_none, errW_some] <;> rfl) | (simp [*, errW_none, errW_some] <;> rfl), zb⟩
  ·rw [if_neg c6] at H
   have c6b0 : decide ((wrap64 ((wrap64 (a0_0 - a2_0)) * (wrap64 (a1_0 - a2_0)))) ≤ 0) = false := decide_eq_false c6
   clear c6
   obtain rfl := Option.some.inj H
   go_enter Tryd.func28, Tryd.ntmps28
   go_wp2_with (first | ((with_reducible refine gate_dst (N := 3) rfl ?_); refine box_event ?hg (N := 3) ?hd (cs := #[.int .i64 a0_0, .int .i64 a0_1]) (t := 33) ?hr ?_; (case hd => rfl); (case hg => rfl); (case hr => first | (go_simp; done) | (go_simp; rfl)); intro gb107 hg w20 hbox hb; have n0_ := Aside0.mk (below_step zb hb); have n1_ := Aside0.mk (hbox); have n2_ := Aside0.mk ((by rw [hg]; exact (below_size zb) : w.heap.size ≤ gb107)); have n3_ := Aside0.mk ((by rw [hg]; exact (below_size zb) : w.heap.size ≤ gb107)); clear HB; have HB := n0_; have BK107 := n1_; have GW107 := n2_; have GE107 := n3_; clear n0_ n1_ n2_ n3_; clear hb hbox hg) | ((with_reducible refine gate_dst (N := 4) rfl ?_); refine box_event ?hg (N := 4) ?hd (cs := #[.int .i64 a1_0, .int .i64 a1_1]) (t := 33) ?hr ?_; (case hd => rfl); (case hg => rfl); (case hr => first | (go_simp; done) | (go_simp; rfl)); intro gb108 hg w21 hbox hb; have n0_ := Aside0.mk (blk_below (g := gb107) (o := .cells #[.int .i64 a0_0, .int .i64 a0_1] 33 (0, 0)) zk hb); have n1_ := Aside0.mk (below_step zb hb); have n2_ := Aside0.mk (hbox); have n3_ := Aside0.mk ((by rw [hg]; exact (below_size zb) : w.heap.size ≤ gb108)); have n4_ := Aside0.mk ((by rw [hg]; exact (below_size zb) : w.heap.size ≤ gb108)); have n5_ := Aside0.mk ((by rw [hg]; exact Nat.ne_of_lt (blk_lt (g := gb107) (o := .cells #[.int .i64 a0_0, .int .i64 a0_1] 33 (0, 0)) zk) : gb107 ≠ gb108)); have n6_ := Aside0.mk ((by rw [hg]; exact Nat.ne_of_gt (blk_lt (g := gb107) (o := .cells #[.int .i64 a0_0, .int .i64 a0_1] 33 (0, 0)) zk) : gb108 ≠ gb107)); clear BK107; clear HB; have BK107 := n0_; have HB := n1_; have BK108 := n2_; have GW108 := n3_; have GE108 := n4_; have NB107_108 := n5_; have NB108_107 := n6_; clear n0_ n1_ n2_ n3_ n4_ n5_ n6_; clear hb hbox hg) | ((with_reducible refine gate_dst (N := 5) rfl ?_); refine box_event ?hg (N := 5) ?hd (cs := #[.int .i64 a2_0, .int .i64 a2_1]) (t := 33) ?hr ?_; (case hd => rfl); (case hg => rfl); (case hr => first | (go_simp; done) | (go_simp; rfl)); intro gb109 hg w22 hbox hb; have n0_ := Aside0.mk (blk_below (g := gb107) (o := .cells #[.int .i64 a0_0, .int .i64 a0_1] 33 (0, 0)) zk hb); have n1_ := Aside0.mk (blk_below (g := gb108) (o := .cells #[.int .i64 a1_0, .int .i64 a1_1] 33 (0, 0)) zk hb); have n2_ := Aside0.mk (below_step zb hb); have n3_ := Aside0.mk (hbox); have n4_ := Aside0.mk ((by rw [hg]; exact (below_size zb) : w.heap.size ≤ gb109)); have n5_ := Aside0.mk ((by rw [hg]; exact (below_size zb) : w.heap.size ≤ gb109)); have n6_ := Aside0.mk ((by rw [hg]; exact Nat.ne_of_lt (blk_lt (g := gb107) (o := .cells #[.int .i64 a0_0, .int .i64 a0_1] 33 (0, 0)) zk) : gb107 ≠ gb109)); have n7_ := Aside0.mk ((by rw [hg]; exact Nat.ne_of_gt (blk_lt (g := gb107) (o := .cells #[.int .i64 a0_0, .int .i64 a0_1] 33 (0, 0)) zk) : gb109 ≠ gb107)); have n8_ := Aside0.mk ((by rw [hg]; exact Nat.ne_of_lt (blk_lt (g := gb108) (o := .cells #[.int .i64 a1_0, .int .i64 a1_1] 33 (0, 0)) zk) : gb108 ≠ gb109)); have n9_ := Aside0.mk ((by rw [hg]; exact Nat.ne_of_gt (blk_lt (g := gb108) (o := .cells #[.int .i64 a1_0, .int .i64 a1_1] 33 (0, 0)) zk) : gb109 ≠ gb108)); clear BK107; clear BK108; clear HB; have BK107 := n0_; have BK108 := n1_; have HB := n2_; have BK109 := n3_; have GW109 := n4_; have GE109 := n5_; have NB107_109 := n6_; have NB109_107 := n7_; have NB108_109 := n8_; have NB109_108 := n9_; clear n0_ n1_ n2_ n3_ n4_ n5_ n6_ n7_ n8_ n9_; clear hb hbox hg; have hnb23 := NB107_108.out; have hnc23 := NB108_107.out; have hnb24 := NB107_109.out; have hnc24 := NB109_107.out; have hcz25_0 : w22.cell? ⟨gb107, 0, none⟩ = some (.int .i64 a0_0) := (blk_cell BK107.out 0).trans rfl; have hcz25_1 : w22.cell? ⟨gb107, 1, none⟩ = some (.int .i64 a0_1) := (blk_cell BK107.out 1).trans rfl; have hfz25_0 := blk_frozen BK107.out 0; have hfz25_1 := blk_frozen BK107.out 1; have hnb26 := NB108_109.out; have hnc26 := NB109_108.out; have hcz27_0 : w22.cell? ⟨gb108, 0, none⟩ = some (.int .i64 a1_0) := (blk_cell BK108.out 0).trans rfl; have hcz27_1 : w22.cell? ⟨gb108, 1, none⟩ = some (.int .i64 a1_1) := (blk_cell BK108.out 1).trans rfl; have hfz27_0 := blk_frozen BK108.out 0; have hfz27_1 := blk_frozen BK108.out 1; have hcz28_0 : w22.cell? ⟨gb109, 0, none⟩ = some (.int .i64 a2_0) := (blk_cell BK109.out 0).trans rfl; have hcz28_1 : w22.cell? ⟨gb109, 1, none⟩ = some (.int .i64 a2_1) := (blk_cell BK109.out 1).trans rfl; have hfz28_0 := blk_frozen BK109.out 0; have hfz28_1 := blk_frozen BK109.out 1) | ((with_reducible refine gate_callee (f := 17) rfl ?_); refine goesL_ (some 10) rfl rfl Tryd.func17 (by kernel_rfl) rfl #[.agg #[.int .i64 a0_0, .int .i64 a0_1], .agg #[.int .i64 a1_0, .int .i64 a1_1], .agg #[.int .i64 a2_0, .int .i64 a2_1]] rfl zn ?_; (with_reducible refine (spec_pgTurn.calls a0_0 a0_1 a1_0 a1_1 a2_0 a2_1 t110 _ A4.out).mono ?_); rintro e w29 ⟨rfl, hb⟩; refine ⟨_, rfl, ?_⟩; have n0_ := Aside0.mk (blk_below (g := gb107) (o := .cells #[.int .i64 a0_0, .int .i64 a0_1] 33 (0, 0)) zk hb); have n1_ := Aside0.mk (blk_below (g := gb108) (o := .cells #[.int .i64 a1_0, .int .i64 a1_1] 33 (0, 0)) zk hb); have n2_ := Aside0.mk (blk_below (g := gb109) (o := .cells #[.int .i64 a2_0, .int .i64 a2_1] 33 (0, 0)) zk hb); have n3_ := Aside0.mk (below_step zb hb); clear BK107; clear BK108; clear BK109; clear HB; have BK107 := n0_; have BK108 := n1_; have BK109 := n2_; have HB := n3_; clear n0_ n1_ n2_ n3_; (try clear hb); (try clear hb2); (try clear hk); (try clear hi); have hcz30_0 : w29.cell? ⟨gb107, 0, none⟩ = some (.int .i64 a0_0) := (blk_cell BK107.out 0).trans rfl; have hcz30_1 : w29.cell? ⟨gb107, 1, none⟩ = some (.int .i64 a0_1) := (blk_cell BK107.out 1).trans rfl; have hfz30_0 := blk_frozen BK107.out 0; have hfz30_1 := blk_frozen BK107.out 1; have hcz31_0 : w29.cell? ⟨gb109, 0, none⟩ = some (.int .i64 a2_0) := (blk_cell BK109.out 0).trans rfl; have hcz31_1 : w29.cell? ⟨gb109, 1, none⟩ = some (.int .i64 a2_1) := (blk_cell BK109.out 1).trans rfl; have hfz31_0 := blk_frozen BK109.out 0; have hfz31_1 := blk_frozen BK109.out 1; have hcz32_0 : w29.cell? ⟨gb108, 0, none⟩ = some (.int .i64 a1_0) := (blk_cell BK108.out 0).trans rfl; have hcz32_1 : w29.cell? ⟨gb108, 1, none⟩ = some (.int .i64 a1_1) := (blk_cell BK108.out 1).trans rfl; have hfz32_0 := blk_frozen BK108.out 0; have hfz32_1 := blk_frozen BK108.out 1))
   go_ret
   exact ⟨by first | rfl | (simp [errW_none, errW_some] <;> rfl) | (simp [*, errW_none, errW_some] <;> rfl), zb⟩
 ·rw [if_neg c5] at H
  have c5b0 : (t110 == 0) = false := beq_eq_false_iff_ne.mpr c5
  have c5b1 : (t110 != 0) = true := bne_iff_ne.mpr c5
  obtain rfl := Option.some.inj H
  go_enter Tryd.func28, Tryd.ntmps28
  go_wp2_with (first | ((with_reducible refine gate_dst (N := 3) rfl ?_); refine box_event ?hg (N := 3) ?hd (cs := #[.int .i64 a0_0, .int .i64 a0_1]) (t := 33) ?hr ?_; (case hd => rfl); (case hg => rfl); (case hr => first | (go_simp; done) | (go_simp; rfl)); intro gb107 hg w33 hbox hb; have n0_ := Aside0.mk (below_step zb hb); have n1_ := Aside0.mk (hbox); have n2_ := Aside0.mk ((by rw [hg]; exact (below_size zb) : w.heap.size ≤ gb107)); have n3_ := Aside0.mk ((by rw [hg]; exact (below_size zb) : w.heap.size ≤ gb107)); clear HB; have HB := n0_; have BK107 := n1_; have GW107 := n2_; have GE107 := n3_; clear n0_ n1_ n2_ n3_; clear hb hbox hg) | ((with_reducible refine gate_dst (N := 4) rfl ?_); refine box_event ?hg (N := 4) ?hd (cs := #[.int .i64 a1_0, .int .i64 a1_1]) (t := 33) ?hr ?_; (case hd => rfl); (case hg => rfl); (case hr => first | (go_simp; done) | (go_simp; rfl)); intro gb108 hg w34 hbox hb; have n0_ := Aside0.mk (blk_below (g := gb107) (o := .cells #[.int .i64 a0_0, .int .i64 a0_1] 33 (0, 0)) zk hb); have n1_ := Aside0.mk (below_step zb hb); have n2_ := Aside0.mk (hbox); have n3_ := Aside0.mk ((by rw [hg]; exact (below_size zb) : w.heap.size ≤ gb108)); have n4_ := Aside0.mk ((by rw [hg]; exact (below_size zb) : w.heap.size ≤ gb108)); have n5_ := Aside0.mk ((by rw [hg]; exact Nat.ne_of_lt (blk_lt (g := gb107) (o := .cells #[.int .i64 a0_0, .int .i64 a0_1] 33 (0, 0)) zk) : gb107 ≠ gb108)); have n6_ := Aside0.mk ((by rw [hg]; exact Nat.ne_of_gt (blk_lt (g := gb107) (o := .cells #[.int .i64 a0_0, .int .i64 a0_1] 33 (0, 0)) zk) : gb108 ≠ gb107)); clear BK107; clear HB; have BK107 := n0_; have HB := n1_; have BK108 := n2_; have GW108 := n3_; have GE108 := n4_; have NB107_108 := n5_; have NB108_107 := n6_; clear n0_ n1_ n2_ n3_ n4_ n5_ n6_; clear hb hbox hg) | ((with_reducible refine gate_dst (N := 5) rfl ?_); refine box_event ?hg (N := 5) ?hd (cs := #[.int .i64 a2_0, .int .i64 a2_1]) (t := 33) ?hr ?_; (case hd => rfl); (case hg => rfl); (case hr => first | (go_simp; done) | (go_simp; rfl)); intro gb109 hg w35 hbox hb; have n0_ := Aside0.mk (blk_below (g := gb107) (o := .cells #[.int .i64 a0_0, .int .i64 a0_1] 33 (0, 0)) zk hb); have n1_ := Aside0.mk (blk_below (g := gb108) (o := .cells #[.int .i64 a1_0, .int .i64 a1_1] 33 (0, 0)) zk hb); have n2_ := Aside0.mk (below_step zb hb); have n3_ := Aside0.mk (hbox); have n4_ := Aside0.mk ((by rw [hg]; exact (below_size zb) : w.heap.size ≤ gb109)); have n5_ := Aside0.mk ((by rw [hg]; exact (below_size zb) : w.heap.size ≤ gb109)); have n6_ := Aside0.mk ((by rw [hg]; exact Nat.ne_of_lt (blk_lt (g := gb107) (o := .cells #[.int .i64 a0_0, .int .i64 a0_1] 33 (0, 0)) zk) : gb107 ≠ gb109)); have n7_ := Aside0.mk ((by rw [hg]; exact Nat.ne_of_gt (blk_lt (g := gb107) (o := .cells #[.int .i64 a0_0, .int .i64 a0_1] 33 (0, 0)) zk) : gb109 ≠ gb107)); have n8_ := Aside0.mk ((by rw [hg]; exact Nat.ne_of_lt (blk_lt (g := gb108) (o := .cells #[.int .i64 a1_0, .int .i64 a1_1] 33 (0, 0)) zk) : gb108 ≠ gb109)); have n9_ := Aside0.mk ((by rw [hg]; exact Nat.ne_of_gt (blk_lt (g := gb108) (o := .cells #[.int .i64 a1_0, .int .i64 a1_1] 33 (0, 0)) zk) : gb109 ≠ gb108)); clear BK107; clear BK108; clear HB; have BK107 := n0_; have BK108 := n1_; have HB := n2_; have BK109 := n3_; have GW109 := n4_; have GE109 := n5_; have NB107_109 := n6_; have NB109_107 := n7_; have NB108_109 := n8_; have NB109_108 := n9_; clear n0_ n1_ n2_ n3_ n4_ n5_ n6_ n7_ n8_ n9_; clear hb hbox hg; have hnb36 := NB107_108.out; have hnc36 := NB108_107.out; have hnb37 := NB107_109.out; have hnc37 := NB109_107.out; have hcz38_0 : w35.cell? ⟨gb107, 0, none⟩ = some (.int .i64 a0_0) := (blk_cell BK107.out 0).trans rfl; have hcz38_1 : w35.cell? ⟨gb107, 1, none⟩ = some (.int .i64 a0_1) := (blk_cell BK107.out 1).trans rfl; have hfz38_0 := blk_frozen BK107.out 0; have hfz38_1 := blk_frozen BK107.out 1; have hnb39 := NB108_109.out; have hnc39 := NB109_108.out; have hcz40_0 : w35.cell? ⟨gb108, 0, none⟩ = some (.int .i64 a1_0) := (blk_cell BK108.out 0).trans rfl; have hcz40_1 : w35.cell? ⟨gb108, 1, none⟩ = some (.int .i64 a1_1) := (blk_cell BK108.out 1).trans rfl; have hfz40_0 := blk_frozen BK108.out 0; have hfz40_1 := blk_frozen BK108.out 1; have hcz41_0 : w35.cell? ⟨gb109, 0, none⟩ = some (.int .i64 a2_0) := (blk_cell BK109.out 0).trans rfl; have hcz41_1 : w35.cell? ⟨gb109, 1, none⟩ = some (.int .i64 a2_1) := (blk_cell BK109.out 1).trans rfl; have hfz41_0 := blk_frozen BK109.out 0; have hfz41_1 := blk_frozen BK109.out 1) | ((with_reducible refine gate_callee (f := 17) rfl ?_); refine goesL_ (some 10) rfl rfl Tryd.func17 (by kernel_rfl) rfl #[.agg #[.int .i64 a0_0, .int .i64 a0_1], .agg #[.int .i64 a1_0, .int .i64 a1_1], .agg #[.int .i64 a2_0, .int .i64 a2_1]] rfl zn ?_; (with_reducible refine (spec_pgTurn.calls a0_0 a0_1 a1_0 a1_1 a2_0 a2_1 t110 _ A4.out).mono ?_); rintro e w42 ⟨rfl, hb⟩; refine ⟨_, rfl, ?_⟩; have n0_ := Aside0.mk (blk_below (g := gb107) (o := .cells #[.int .i64 a0_0, .int .i64 a0_1] 33 (0, 0)) zk hb); have n1_ := Aside0.mk (blk_below (g := gb108) (o := .cells #[.int .i64 a1_0, .int .i64 a1_1] 33 (0, 0)) zk hb); have n2_ := Aside0.mk (blk_below (g := gb109) (o := .cells #[.int .i64 a2_0, .int .i64 a2_1] 33 (0, 0)) zk hb); have n3_ := Aside0.mk (below_step zb hb); clear BK107; clear BK108; clear BK109; clear HB; have BK107 := n0_; have BK108 := n1_; have BK109 := n2_; have HB := n3_; clear n0_ n1_ n2_ n3_; (try clear hb); (try clear hb2); (try clear hk); (try clear hi)))
  go_ret
  exact ⟨by first | rfl | (simp [errW_none, errW_some] <;> rfl) | (simp [*, errW_none, errW_some] <;> rfl), zb⟩
def spec_l1Sign.f (a0 : Int) : Option (Int) := if a0 > 0 then (some 1) else (if a0 < 0 then (some (-1)) else (some 0))
set_option maxHeartbeats 8000000 in
set_option maxRecDepth 100000 in
theorem spec_l1Sign.calls (a0 : Int) (r : Int) (w : World) (h : spec_l1Sign.f a0 = some r) :
  Calls Tryd.prog 29 #[.int .i64 a0] w fun e w' => e = .returned (.int .i64 r) ∧ Drawn0 w w' := by
 have H : (if a0 > 0 then (some 1) else (if a0 < 0 then (some (-1)) else (some 0))) = some r := h
 clear h
 by_cases c2 : a0 > 0
 ·rw [if_pos c2] at H
  have c2b0 : decide (0 < a0) = true := decide_eq_true c2
  clear c2
  obtain rfl := Option.some.inj H
  go_enter Tryd.func29, Tryd.ntmps29
  go_wp2
  go_ret
  exact ⟨by first | rfl | (simp; done) | (simp [*]; done), by repeat (first | exact Drawn0.refl _ | apply Drawn0.step)⟩
 ·rw [if_neg c2] at H
  have c2b0 : decide (0 < a0) = false := decide_eq_false c2
  clear c2
  by_cases c3 : a0 < 0
  ·rw [if_pos c3] at H
   have c3b0 : decide (a0 < 0) = true := decide_eq_true c3
   clear c3
   obtain rfl := Option.some.inj H
   go_enter Tryd.func29, Tryd.ntmps29
   go_wp2
   go_ret
   exact ⟨by first | rfl | (simp; done) | (simp [*]; done), by repeat (first | exact Drawn0.refl _ | apply Drawn0.step)⟩
  ·rw [if_neg c3] at H
   have c3b0 : decide (a0 < 0) = false := decide_eq_false c3
   clear c3
   obtain rfl := Option.some.inj H
   go_enter Tryd.func29, Tryd.ntmps29
   go_wp2
   go_ret
   exact ⟨by first | rfl | (simp; done) | (simp [*]; done), by repeat (first | exact Drawn0.refl _ | apply Drawn0.step)⟩
end Go.Proofs.YtphpdfcblchpnaaDoor.Q
namespace Go.Proofs.YtphpdfcblchpnaaDoor.Q
open Go.RowKit Go.Proofs.YtphpdfcblchpnaaDoorW.PrintWords Go.Proofs.YtphpdfcblchpnaaDoorW.PrintLast Go.Proofs.YtphpdfcblchpnaaDoorW.PrintMore
attribute [local go_sem] max2_int min2_int max_two min_two max_three min_three max_four min_four   -- for this text's walks alone
set_option linter.unusedVariables false
set_option linter.unusedSimpArgs false
def spec_pgMeet.j0 : Nat → Bool → Int → Int → Int → Int → Int → Int → Int → Int → Option (Bool)
 | 0, _, _, _, _, _, _, _, _, _ => none
 | k + 1, x30, x112000, x112001, x113000, x113001, x114000, x114001, x115000, x115001 => if x30 = true then (some true) else ((spec_pgTurn.f x112000 x112001 x113000 x113001 x114000 x114001).bind fun t119 => ((spec_l1Sign.f t119).bind fun t120 => ((spec_pgTurn.f x112000 x112001 x113000 x113001 x115000 x115001).bind fun t121 => ((spec_l1Sign.f t121).bind fun t122 => (if (wrap64 (t120 * t122)) < 0 then ((spec_pgTurn.f x114000 x114001 x115000 x115001 x112000 x112001).bind fun t123 => ((spec_l1Sign.f t123).bind fun t124 => ((spec_pgTurn.f x114000 x114001 x115000 x115001 x113000 x113001).bind fun t125 => ((spec_l1Sign.f t125).bind fun t126 => (some (decide ((wrap64 (t124 * t126)) < 0))))))) else (some false))))))
def spec_pgMeet.f (k : Nat) (a0_0 : Int) (a0_1 : Int) (a1_0 : Int) (a1_1 : Int) (a2_0 : Int) (a2_1 : Int) (a3_0 : Int) (a3_1 : Int) : Option (Bool) := (spec_pgOn.f a0_0 a0_1 a1_0 a1_1 a2_0 a2_1).bind fun t115 => (if t115 = true then (spec_pgMeet.j0 k true a0_0 a0_1 a1_0 a1_1 a2_0 a2_1 a3_0 a3_1) else ((spec_pgOn.f a0_0 a0_1 a1_0 a1_1 a3_0 a3_1).bind fun t116 => (if t116 = true then (spec_pgMeet.j0 k true a0_0 a0_1 a1_0 a1_1 a2_0 a2_1 a3_0 a3_1) else ((spec_pgOn.f a2_0 a2_1 a3_0 a3_1 a0_0 a0_1).bind fun t117 => (if t117 = true then (spec_pgMeet.j0 k true a0_0 a0_1 a1_0 a1_1 a2_0 a2_1 a3_0 a3_1) else ((spec_pgOn.f a2_0 a2_1 a3_0 a3_1 a1_0 a1_1).bind fun t118 => (spec_pgMeet.j0 k t118 a0_0 a0_1 a1_0 a1_1 a2_0 a2_1 a3_0 a3_1)))))))
def spec_pgMeet.T3 : Bool × List (List Nat × List Nat) := (true, [([], []), ([], []), ([], []), ([0, 1, 2], [0, 1, 2]), ([3, 3], [3]), ([], []), ([], []), ([], []), ([5, 6, 7, 4], [5, 6, 7]), ([8, 8], [8]), ([4, 9], [4, 9]), ([10], [10]), ([11, 9], [11]), ([12], [12]), ([12], [12]), ([12], [12]), ([13, 14, 15, 12, 12], [12, 13, 14, 15]), ([16, 16, 12], [12, 16]), ([12], [12]), ([12], [12]), ([12], [12]), ([18, 19, 20, 17, 12], [12, 18, 19, 20]), ([21, 21, 12], [12, 21]), ([17, 22, 12], [12, 17, 22]), ([23, 12], [12, 23]), ([12, 24], [12, 24]), ([25, 22, 0, 1, 2, 3, 4, 5, 6, 7, 8, 9, 10, 11, 12, 13, 14, 15, 16, 17, 18, 19, 20, 21, 22, 23, 24, 25], [25])])
def spec_pgMeet.B3 : List Nat := [0, 0, 0, 7, 15, 0, 0, 0, 255, 511, 1023, 2047, 4095, 8191, 8191, 8191, 65535, 131071, 8191, 8191, 8191, 2097151, 4194303, 8388607, 16777215, 33554431, 67108863]
theorem spec_pgMeet.tab3 : rtab .any (opsOf Tryd.f18 3) = spec_pgMeet.T3 := by kernel_rfl
theorem spec_pgMeet.bits3 : waitsOk spec_pgMeet.T3.2 spec_pgMeet.B3 = true := by kernel_rfl
set_option maxHeartbeats 8000000 in
set_option maxRecDepth 100000 in
theorem spec_pgMeet.calls (k : Nat) (a0_0 : Int) (a0_1 : Int) (a1_0 : Int) (a1_1 : Int) (a2_0 : Int) (a2_1 : Int) (a3_0 : Int) (a3_1 : Int) (r : Bool) (w : World) (h : spec_pgMeet.f k a0_0 a0_1 a1_0 a1_1 a2_0 a2_1 a3_0 a3_1 = some r) :
  Calls Tryd.prog 18 #[.agg #[.int .i64 a0_0, .int .i64 a0_1], .agg #[.int .i64 a1_0, .int .i64 a1_1], .agg #[.int .i64 a2_0, .int .i64 a2_1], .agg #[.int .i64 a3_0, .int .i64 a3_1]] w fun e w' => e = .returned (.bool r) ∧ Below w.heap.size w w' := by
 have hu33 := Tryd.underlying33
 have HB := Aside0.mk (Below.refl w.heap.size w)
 have H : ((spec_pgOn.f a0_0 a0_1 a1_0 a1_1 a2_0 a2_1).bind fun t115 => (if t115 = true then (spec_pgMeet.j0 k true a0_0 a0_1 a1_0 a1_1 a2_0 a2_1 a3_0 a3_1) else ((spec_pgOn.f a0_0 a0_1 a1_0 a1_1 a3_0 a3_1).bind fun t116 => (if t116 = true then (spec_pgMeet.j0 k true a0_0 a0_1 a1_0 a1_1 a2_0 a2_1 a3_0 a3_1) else ((spec_pgOn.f a2_0 a2_1 a3_0 a3_1 a0_0 a0_1).bind fun t117 => (if t117 = true then (spec_pgMeet.j0 k true a0_0 a0_1 a1_0 a1_1 a2_0 a2_1 a3_0 a3_1) else ((spec_pgOn.f a2_0 a2_1 a3_0 a3_1 a1_0 a1_1).bind fun t118 => (spec_pgMeet.j0 k t118 a0_0 a0_1 a1_0 a1_1 a2_0 a2_1 a3_0 a3_1)))))))) = some r := h
 clear h
 have HC5 := Aside0.mk H
 clear H
 go_enter Tryd.func18, Tryd.ntmps18
 go_upto_region 1 with (first | ((with_reducible refine gate_dst (N := 4) rfl ?_); refine box_event ?hg (N := 4) ?hd (cs := #[.int .i64 a0_0, .int .i64 a0_1]) (t := 33) ?hr ?_; (case hd => rfl); (case hg => rfl); (case hr => first | (go_simp; done) | (go_simp; rfl)); intro gb111 hg w6 hbox hb; have n0_ := Aside0.mk (below_step zb hb); have n1_ := Aside0.mk (hbox); have n2_ := Aside0.mk ((by rw [hg]; exact (below_size zb) : w.heap.size ≤ gb111)); have n3_ := Aside0.mk ((by rw [hg]; exact (below_size zb) : w.heap.size ≤ gb111)); clear HB; have HB := n0_; have BK111 := n1_; have GW111 := n2_; have GE111 := n3_; clear n0_ n1_ n2_ n3_; clear hb hbox hg) | ((with_reducible refine gate_dst (N := 5) rfl ?_); refine box_event ?hg (N := 5) ?hd (cs := #[.int .i64 a1_0, .int .i64 a1_1]) (t := 33) ?hr ?_; (case hd => rfl); (case hg => rfl); (case hr => first | (go_simp; done) | (go_simp; rfl)); intro gb112 hg w7 hbox hb; have n0_ := Aside0.mk (blk_below (g := gb111) (o := .cells #[.int .i64 a0_0, .int .i64 a0_1] 33 (0, 0)) zk hb); have n1_ := Aside0.mk (below_step zb hb); have n2_ := Aside0.mk (hbox); have n3_ := Aside0.mk ((by rw [hg]; exact (below_size zb) : w.heap.size ≤ gb112)); have n4_ := Aside0.mk ((by rw [hg]; exact (below_size zb) : w.heap.size ≤ gb112)); have n5_ := Aside0.mk ((by rw [hg]; exact Nat.ne_of_lt (blk_lt (g := gb111) (o := .cells #[.int .i64 a0_0, .int .i64 a0_1] 33 (0, 0)) zk) : gb111 ≠ gb112)); have n6_ := Aside0.mk ((by rw [hg]; exact Nat.ne_of_gt (blk_lt (g := gb111) (o := .cells #[.int .i64 a0_0, .int .i64 a0_1] 33 (0, 0)) zk) : gb112 ≠ gb111)); clear BK111; clear HB; have BK111 := n0_; have HB := n1_; have BK112 := n2_; have GW112 := n3_; have GE112 := n4_; have NB111_112 := n5_; have NB112_111 := n6_; clear n0_ n1_ n2_ n3_ n4_ n5_ n6_; clear hb hbox hg) | ((with_reducible refine gate_dst (N := 6) rfl ?_); refine box_event ?hg (N := 6) ?hd (cs := #[.int .i64 a2_0, .int .i64 a2_1]) (t := 33) ?hr ?_; (case hd => rfl); (case hg => rfl); (case hr => first | (go_simp; done) | (go_simp; rfl)); intro gb113 hg w8 hbox hb; have n0_ := Aside0.mk (blk_below (g := gb111) (o := .cells #[.int .i64 a0_0, .int .i64 a0_1] 33 (0, 0)) zk hb); have n1_ := Aside0.mk (blk_below (g := gb112) (o := .cells #[.int .i64 a1_0, .int .i64 a1_1] 33 (0, 0)) zk hb); have n2_ := Aside0.mk (below_step zb hb); have n3_ := Aside0.mk (hbox); have n4_ := Aside0.mk ((by rw [hg]; exact (below_size zb) : w.heap.size ≤ gb113)); have n5_ := Aside0.mk ((by rw [hg]; exact (below_size zb) : w.heap.size ≤ gb113)); have n6_ := Aside0.mk ((by rw [hg]; exact Nat.ne_of_lt (blk_lt (g := gb111) (o := .cells #[.int .i64 a0_0, .int .i64 a0_1] 33 (0, 0)) zk) : gb111 ≠ gb113)); have n7_ := Aside0.mk ((by rw [hg]; exact Nat.ne_of_gt (blk_lt (g := gb111) (o := .cells #[.int .i64 a0_0, .int .i64 a0_1] 33 (0, 0)) zk) : gb113 ≠ gb111)); have n8_ := Aside0.mk ((by rw [hg]; exact Nat.ne_of_lt (blk_lt (g := gb112) (o := .cells #[.int .i64 a1_0, .int .i64 a1_1] 33 (0, 0)) zk) : gb112 ≠ gb113)); have n9_ := Aside0.mk ((by rw [hg]; exact Nat.ne_of_gt (blk_lt (g := gb112) (o := .cells #[.int .i64 a1_0, .int .i64 a1_1] 33 (0, 0)) zk) : gb113 ≠ gb112)); clear BK111; clear BK112; clear HB; have BK111 := n0_; have BK112 := n1_; have HB := n2_; have BK113 := n3_; have GW113 := n4_; have GE113 := n5_; have NB111_113 := n6_; have NB113_111 := n7_; have NB112_113 := n8_; have NB113_112 := n9_; clear n0_ n1_ n2_ n3_ n4_ n5_ n6_ n7_ n8_ n9_; clear hb hbox hg) | ((with_reducible refine gate_dst (N := 7) rfl ?_); refine box_event ?hg (N := 7) ?hd (cs := #[.int .i64 a3_0, .int .i64 a3_1]) (t := 33) ?hr ?_; (case hd => rfl); (case hg => rfl); (case hr => first | (go_simp; done) | (go_simp; rfl)); intro gb114 hg w9 hbox hb; have n0_ := Aside0.mk (blk_below (g := gb111) (o := .cells #[.int .i64 a0_0, .int .i64 a0_1] 33 (0, 0)) zk hb); have n1_ := Aside0.mk (blk_below (g := gb112) (o := .cells #[.int .i64 a1_0, .int .i64 a1_1] 33 (0, 0)) zk hb); have n2_ := Aside0.mk (blk_below (g := gb113) (o := .cells #[.int .i64 a2_0, .int .i64 a2_1] 33 (0, 0)) zk hb); have n3_ := Aside0.mk (below_step zb hb); have n4_ := Aside0.mk (hbox); have n5_ := Aside0.mk ((by rw [hg]; exact (below_size zb) : w.heap.size ≤ gb114)); have n6_ := Aside0.mk ((by rw [hg]; exact (below_size zb) : w.heap.size ≤ gb114)); have n7_ := Aside0.mk ((by rw [hg]; exact Nat.ne_of_lt (blk_lt (g := gb111) (o := .cells #[.int .i64 a0_0, .int .i64 a0_1] 33 (0, 0)) zk) : gb111 ≠ gb114)); have n8_ := Aside0.mk ((by rw [hg]; exact Nat.ne_of_gt (blk_lt (g := gb111) (o := .cells #[.int .i64 a0_0, .int .i64 a0_1] 33 (0, 0)) zk) : gb114 ≠ gb111)); have n9_ := Aside0.mk ((by rw [hg]; exact Nat.ne_of_lt (blk_lt (g := gb112) (o := .cells #[.int .i64 a1_0, .int .i64 a1_1] 33 (0, 0)) zk) : gb112 ≠ gb114)); have n10_ := Aside0.mk ((by rw [hg]; exact Nat.ne_of_gt (blk_lt (g := gb112) (o := .cells #[.int .i64 a1_0, .int .i64 a1_1] 33 (0, 0)) zk) : gb114 ≠ gb112)); have n11_ := Aside0.mk ((by rw [hg]; exact Nat.ne_of_lt (blk_lt (g := gb113) (o := .cells #[.int .i64 a2_0, .int .i64 a2_1] 33 (0, 0)) zk) : gb113 ≠ gb114)); have n12_ := Aside0.mk ((by rw [hg]; exact Nat.ne_of_gt (blk_lt (g := gb113) (o := .cells #[.int .i64 a2_0, .int .i64 a2_1] 33 (0, 0)) zk) : gb114 ≠ gb113)); clear BK111; clear BK112; clear BK113; clear HB; have BK111 := n0_; have BK112 := n1_; have BK113 := n2_; have HB := n3_; have BK114 := n4_; have GW114 := n5_; have GE114 := n6_; have NB111_114 := n7_; have NB114_111 := n8_; have NB112_114 := n9_; have NB114_112 := n10_; have NB113_114 := n11_; have NB114_113 := n12_; clear n0_ n1_ n2_ n3_ n4_ n5_ n6_ n7_ n8_ n9_ n10_ n11_ n12_; clear hb hbox hg))
 (try simp only [Act.put, List.setIfInBounds_toArray, List.set_cons_zero, List.set_cons_succ])
 go_cut [30] (fun v30 wc => ∃ (kq : Nat) (x30_4 : Bool), v30 = .bool x30_4 ∧ Aside0 (spec_pgMeet.j0 kq x30_4 a0_0 a0_1 a1_0 a1_1 a2_0 a2_1 a3_0 a3_1 = some r) ∧ Aside0 (kq ≤ k) ∧ Aside0 (wc.heap[gb111]? = some (.cells #[.int .i64 a0_0, .int .i64 a0_1] 33 (0, 0))) ∧ Aside0 (wc.heap[gb112]? = some (.cells #[.int .i64 a1_0, .int .i64 a1_1] 33 (0, 0))) ∧ Aside0 (wc.heap[gb113]? = some (.cells #[.int .i64 a2_0, .int .i64 a2_1] 33 (0, 0))) ∧ Aside0 (wc.heap[gb114]? = some (.cells #[.int .i64 a3_0, .int .i64 a3_1] 33 (0, 0))) ∧ Aside0 (Below w.heap.size w wc))
 case first =>
  have H := HC5.out
  clear HC5
  replace H := Option.bind_eq_some_iff.mp H
  obtain ⟨t115, A100, H⟩ := H
  replace H : (if t115 = true then (spec_pgMeet.j0 k true a0_0 a0_1 a1_0 a1_1 a2_0 a2_1 a3_0 a3_1) else ((spec_pgOn.f a0_0 a0_1 a1_0 a1_1 a3_0 a3_1).bind fun t116 => (if t116 = true then (spec_pgMeet.j0 k true a0_0 a0_1 a1_0 a1_1 a2_0 a2_1 a3_0 a3_1) else ((spec_pgOn.f a2_0 a2_1 a3_0 a3_1 a0_0 a0_1).bind fun t117 => (if t117 = true then (spec_pgMeet.j0 k true a0_0 a0_1 a1_0 a1_1 a2_0 a2_1 a3_0 a3_1) else ((spec_pgOn.f a2_0 a2_1 a3_0 a3_1 a1_0 a1_1).bind fun t118 => (spec_pgMeet.j0 k t118 a0_0 a0_1 a1_0 a1_1 a2_0 a2_1 a3_0 a3_1))))))) = some r := H
  have A10 := Aside0.mk A100
  clear A100
  by_cases c11 : t115 = true
  ·subst c11
   have H1 : (spec_pgMeet.j0 k true a0_0 a0_1 a1_0 a1_1 a2_0 a2_1 a3_0 a3_1) = some r := by rw [if_pos rfl] at H; exact H
   clear H
   have H := H1
   clear H1
   have H' := Aside0.mk H
   clear H
   have hnb12 := NB111_112.out
   have hnc12 := NB112_111.out
   have hnb13 := NB111_113.out
   have hnc13 := NB113_111.out
   have hnb14 := NB111_114.out
   have hnc14 := NB114_111.out
   have hcz15_0 : w9.cell? ⟨gb111, 0, none⟩ = some (.int .i64 a0_0) := (blk_cell BK111.out 0).trans rfl
   have hcz15_1 : w9.cell? ⟨gb111, 1, none⟩ = some (.int .i64 a0_1) := (blk_cell BK111.out 1).trans rfl
   have hfz15_0 := blk_frozen BK111.out 0
   have hfz15_1 := blk_frozen BK111.out 1
   have hnb16 := NB112_113.out
   have hnc16 := NB113_112.out
   have hnb17 := NB112_114.out
   have hnc17 := NB114_112.out
   have hcz18_0 : w9.cell? ⟨gb112, 0, none⟩ = some (.int .i64 a1_0) := (blk_cell BK112.out 0).trans rfl
   have hcz18_1 : w9.cell? ⟨gb112, 1, none⟩ = some (.int .i64 a1_1) := (blk_cell BK112.out 1).trans rfl
   have hfz18_0 := blk_frozen BK112.out 0
   have hfz18_1 := blk_frozen BK112.out 1
   have hnb19 := NB113_114.out
   have hnc19 := NB114_113.out
   have hcz20_0 : w9.cell? ⟨gb113, 0, none⟩ = some (.int .i64 a2_0) := (blk_cell BK113.out 0).trans rfl
   have hcz20_1 : w9.cell? ⟨gb113, 1, none⟩ = some (.int .i64 a2_1) := (blk_cell BK113.out 1).trans rfl
   have hfz20_0 := blk_frozen BK113.out 0
   have hfz20_1 := blk_frozen BK113.out 1
   go_wp2_with (first | ((with_reducible refine gate_callee (f := 28) rfl ?_); refine goesL_ (some 12) rfl rfl Tryd.func28 (by kernel_rfl) rfl #[.agg #[.int .i64 a0_0, .int .i64 a0_1], .agg #[.int .i64 a1_0, .int .i64 a1_1], .agg #[.int .i64 a2_0, .int .i64 a2_1]] rfl zn ?_; (with_reducible refine (spec_pgOn.calls a0_0 a0_1 a1_0 a1_1 a2_0 a2_1 true _ A10.out).mono ?_); rintro e w21 ⟨rfl, hb⟩; refine ⟨_, rfl, ?_⟩; have n0_ := Aside0.mk (blk_below (g := gb111) (o := .cells #[.int .i64 a0_0, .int .i64 a0_1] 33 (0, 0)) zk hb); have n1_ := Aside0.mk (blk_below (g := gb112) (o := .cells #[.int .i64 a1_0, .int .i64 a1_1] 33 (0, 0)) zk hb); have n2_ := Aside0.mk (blk_below (g := gb113) (o := .cells #[.int .i64 a2_0, .int .i64 a2_1] 33 (0, 0)) zk hb); have n3_ := Aside0.mk (blk_below (g := gb114) (o := .cells #[.int .i64 a3_0, .int .i64 a3_1] 33 (0, 0)) zk hb); have n4_ := Aside0.mk (below_step zb hb); clear BK111; clear BK112; clear BK113; clear BK114; clear HB; have BK111 := n0_; have BK112 := n1_; have BK113 := n2_; have BK114 := n3_; have HB := n4_; clear n0_ n1_ n2_ n3_ n4_; (try clear hb); (try clear hb2); (try clear hk); (try clear hi)))
   go_meet
   case rel => exact ⟨_, (true), (by first | rfl | (simp; done) | (simp [*]; done)), H', ⟨by first | omega | exact Nat.le_refl _⟩, ⟨zk⟩, ⟨zk⟩, ⟨zk⟩, ⟨zk⟩, ⟨zb⟩⟩
  ·replace c11 := Bool.eq_false_iff.mpr c11
   subst c11
   have H1 : ((spec_pgOn.f a0_0 a0_1 a1_0 a1_1 a3_0 a3_1).bind fun t116 => (if t116 = true then (spec_pgMeet.j0 k true a0_0 a0_1 a1_0 a1_1 a2_0 a2_1 a3_0 a3_1) else ((spec_pgOn.f a2_0 a2_1 a3_0 a3_1 a0_0 a0_1).bind fun t117 => (if t117 = true then (spec_pgMeet.j0 k true a0_0 a0_1 a1_0 a1_1 a2_0 a2_1 a3_0 a3_1) else ((spec_pgOn.f a2_0 a2_1 a3_0 a3_1 a1_0 a1_1).bind fun t118 => (spec_pgMeet.j0 k t118 a0_0 a0_1 a1_0 a1_1 a2_0 a2_1 a3_0 a3_1)))))) = some r := by rw [if_neg (show ¬ (false = true) by decide)] at H; exact H
   clear H
   have H := H1
   clear H1
   replace H := Option.bind_eq_some_iff.mp H
   obtain ⟨t116, A220, H⟩ := H
   replace H : (if t116 = true then (spec_pgMeet.j0 k true a0_0 a0_1 a1_0 a1_1 a2_0 a2_1 a3_0 a3_1) else ((spec_pgOn.f a2_0 a2_1 a3_0 a3_1 a0_0 a0_1).bind fun t117 => (if t117 = true then (spec_pgMeet.j0 k true a0_0 a0_1 a1_0 a1_1 a2_0 a2_1 a3_0 a3_1) else ((spec_pgOn.f a2_0 a2_1 a3_0 a3_1 a1_0 a1_1).bind fun t118 => (spec_pgMeet.j0 k t118 a0_0 a0_1 a1_0 a1_1 a2_0 a2_1 a3_0 a3_1))))) = some r := H
   have A22 := Aside0.mk A220
   clear A220
   by_cases c23 : t116 = true
   ·subst c23
    have H1 : (spec_pgMeet.j0 k true a0_0 a0_1 a1_0 a1_1 a2_0 a2_1 a3_0 a3_1) = some r := by rw [if_pos rfl] at H; exact H
    clear H
    have H := H1
    clear H1
    have H' := Aside0.mk H
    clear H
    have hnb24 := NB111_112.out
    have hnc24 := NB112_111.out
    have hnb25 := NB111_113.out
    have hnc25 := NB113_111.out
    have hnb26 := NB111_114.out
    have hnc26 := NB114_111.out
    have hcz27_0 : w9.cell? ⟨gb111, 0, none⟩ = some (.int .i64 a0_0) := (blk_cell BK111.out 0).trans rfl
    have hcz27_1 : w9.cell? ⟨gb111, 1, none⟩ = some (.int .i64 a0_1) := (blk_cell BK111.out 1).trans rfl
    have hfz27_0 := blk_frozen BK111.out 0
    have hfz27_1 := blk_frozen BK111.out 1
    have hnb28 := NB112_113.out
    have hnc28 := NB113_112.out
    have hnb29 := NB112_114.out
    have hnc29 := NB114_112.out
    have hcz30_0 : w9.cell? ⟨gb112, 0, none⟩ = some (.int .i64 a1_0) := (blk_cell BK112.out 0).trans rfl
    have hcz30_1 : w9.cell? ⟨gb112, 1, none⟩ = some (.int .i64 a1_1) := (blk_cell BK112.out 1).trans rfl
    have hfz30_0 := blk_frozen BK112.out 0
    have hfz30_1 := blk_frozen BK112.out 1
    have hnb31 := NB113_114.out
    have hnc31 := NB114_113.out
    have hcz32_0 : w9.cell? ⟨gb113, 0, none⟩ = some (.int .i64 a2_0) := (blk_cell BK113.out 0).trans rfl
    have hcz32_1 : w9.cell? ⟨gb113, 1, none⟩ = some (.int .i64 a2_1) := (blk_cell BK113.out 1).trans rfl
    have hfz32_0 := blk_frozen BK113.out 0
    have hfz32_1 := blk_frozen BK113.out 1
    go_wp2_with (first | ((with_reducible refine gate_callee (f := 28) rfl ?_); refine goesL_ (some 12) rfl rfl Tryd.func28 (by kernel_rfl) rfl #[.agg #[.int .i64 a0_0, .int .i64 a0_1], .agg #[.int .i64 a1_0, .int .i64 a1_1], .agg #[.int .i64 a2_0, .int .i64 a2_1]] rfl zn ?_; (with_reducible refine (spec_pgOn.calls a0_0 a0_1 a1_0 a1_1 a2_0 a2_1 false _ A10.out).mono ?_); rintro e w33 ⟨rfl, hb⟩; refine ⟨_, rfl, ?_⟩; have n0_ := Aside0.mk (blk_below (g := gb111) (o := .cells #[.int .i64 a0_0, .int .i64 a0_1] 33 (0, 0)) zk hb); have n1_ := Aside0.mk (blk_below (g := gb112) (o := .cells #[.int .i64 a1_0, .int .i64 a1_1] 33 (0, 0)) zk hb); have n2_ := Aside0.mk (blk_below (g := gb113) (o := .cells #[.int .i64 a2_0, .int .i64 a2_1] 33 (0, 0)) zk hb); have n3_ := Aside0.mk (blk_below (g := gb114) (o := .cells #[.int .i64 a3_0, .int .i64 a3_1] 33 (0, 0)) zk hb); have n4_ := Aside0.mk (below_step zb hb); clear BK111; clear BK112; clear BK113; clear BK114; clear HB; have BK111 := n0_; have BK112 := n1_; have BK113 := n2_; have BK114 := n3_; have HB := n4_; clear n0_ n1_ n2_ n3_ n4_; (try clear hb); (try clear hb2); (try clear hk); (try clear hi); have hcz34_0 : w33.cell? ⟨gb111, 0, none⟩ = some (.int .i64 a0_0) := (blk_cell BK111.out 0).trans rfl; have hcz34_1 : w33.cell? ⟨gb111, 1, none⟩ = some (.int .i64 a0_1) := (blk_cell BK111.out 1).trans rfl; have hfz34_0 := blk_frozen BK111.out 0; have hfz34_1 := blk_frozen BK111.out 1; have hcz35_0 : w33.cell? ⟨gb112, 0, none⟩ = some (.int .i64 a1_0) := (blk_cell BK112.out 0).trans rfl; have hcz35_1 : w33.cell? ⟨gb112, 1, none⟩ = some (.int .i64 a1_1) := (blk_cell BK112.out 1).trans rfl; have hfz35_0 := blk_frozen BK112.out 0; have hfz35_1 := blk_frozen BK112.out 1; have hcz36_0 : w33.cell? ⟨gb114, 0, none⟩ = some (.int .i64 a3_0) := (blk_cell BK114.out 0).trans rfl; have hcz36_1 : w33.cell? ⟨gb114, 1, none⟩ = some (.int .i64 a3_1) := (blk_cell BK114.out 1).trans rfl; have hfz36_0 := blk_frozen BK114.out 0; have hfz36_1 := blk_frozen BK114.out 1) | (go_at_call 28; (with_reducible refine (spec_pgOn.calls a0_0 a0_1 a1_0 a1_1 a3_0 a3_1 true _ A22.out).mono ?_); rintro e w37 ⟨rfl, hb⟩; have n0_ := Aside0.mk (blk_below (g := gb111) (o := .cells #[.int .i64 a0_0, .int .i64 a0_1] 33 (0, 0)) zk hb); have n1_ := Aside0.mk (blk_below (g := gb112) (o := .cells #[.int .i64 a1_0, .int .i64 a1_1] 33 (0, 0)) zk hb); have n2_ := Aside0.mk (blk_below (g := gb113) (o := .cells #[.int .i64 a2_0, .int .i64 a2_1] 33 (0, 0)) zk hb); have n3_ := Aside0.mk (blk_below (g := gb114) (o := .cells #[.int .i64 a3_0, .int .i64 a3_1] 33 (0, 0)) zk hb); have n4_ := Aside0.mk (below_step zb hb); clear BK111; clear BK112; clear BK113; clear BK114; clear HB; have BK111 := n0_; have BK112 := n1_; have BK113 := n2_; have BK114 := n3_; have HB := n4_; clear n0_ n1_ n2_ n3_ n4_; (try clear hb); (try clear hb2); (try clear hk); (try clear hi)))
    go_meet
    case rel => exact ⟨_, (true), (by first | rfl | (simp; done) | (simp [*]; done)), H', ⟨by first | omega | exact Nat.le_refl _⟩, ⟨zk⟩, ⟨zk⟩, ⟨zk⟩, ⟨zk⟩, ⟨zb⟩⟩
   ·replace c23 := Bool.eq_false_iff.mpr c23
    subst c23
    have H1 : ((spec_pgOn.f a2_0 a2_1 a3_0 a3_1 a0_0 a0_1).bind fun t117 => (if t117 = true then (spec_pgMeet.j0 k true a0_0 a0_1 a1_0 a1_1 a2_0 a2_1 a3_0 a3_1) else ((spec_pgOn.f a2_0 a2_1 a3_0 a3_1 a1_0 a1_1).bind fun t118 => (spec_pgMeet.j0 k t118 a0_0 a0_1 a1_0 a1_1 a2_0 a2_1 a3_0 a3_1)))) = some r := by rw [if_neg (show ¬ (false = true) by decide)] at H; exact H
    clear H
    have H := H1
    clear H1
    replace H := Option.bind_eq_some_iff.mp H
    obtain ⟨t117, A380, H⟩ := H
    replace H : (if t117 = true then (spec_pgMeet.j0 k true a0_0 a0_1 a1_0 a1_1 a2_0 a2_1 a3_0 a3_1) else ((spec_pgOn.f a2_0 a2_1 a3_0 a3_1 a1_0 a1_1).bind fun t118 => (spec_pgMeet.j0 k t118 a0_0 a0_1 a1_0 a1_1 a2_0 a2_1 a3_0 a3_1))) = some r := H
    have A38 := Aside0.mk A380
    clear A380
    by_cases c39 : t117 = true
    ·subst c39
     have H1 : (spec_pgMeet.j0 k true a0_0 a0_1 a1_0 a1_1 a2_0 a2_1 a3_0 a3_1) = some r := by rw [if_pos rfl] at H; exact H
     clear H
     have H := H1
     clear H1
     have H' := Aside0.mk H
     clear H
     have hnb40 := NB111_112.out
     have hnc40 := NB112_111.out
     have hnb41 := NB111_113.out
     have hnc41 := NB113_111.out
     have hnb42 := NB111_114.out
     have hnc42 := NB114_111.out
     have hcz43_0 : w9.cell? ⟨gb111, 0, none⟩ = some (.int .i64 a0_0) := (blk_cell BK111.out 0).trans rfl
     have hcz43_1 : w9.cell? ⟨gb111, 1, none⟩ = some (.int .i64 a0_1) := (blk_cell BK111.out 1).trans rfl
     have hfz43_0 := blk_frozen BK111.out 0
     have hfz43_1 := blk_frozen BK111.out 1
     have hnb44 := NB112_113.out
     have hnc44 := NB113_112.out
     have hnb45 := NB112_114.out
     have hnc45 := NB114_112.out
     have hcz46_0 : w9.cell? ⟨gb112, 0, none⟩ = some (.int .i64 a1_0) := (blk_cell BK112.out 0).trans rfl
     have hcz46_1 : w9.cell? ⟨gb112, 1, none⟩ = some (.int .i64 a1_1) := (blk_cell BK112.out 1).trans rfl
     have hfz46_0 := blk_frozen BK112.out 0
     have hfz46_1 := blk_frozen BK112.out 1
     have hnb47 := NB113_114.out
     have hnc47 := NB114_113.out
     have hcz48_0 : w9.cell? ⟨gb113, 0, none⟩ = some (.int .i64 a2_0) := (blk_cell BK113.out 0).trans rfl
     have hcz48_1 : w9.cell? ⟨gb113, 1, none⟩ = some (.int .i64 a2_1) := (blk_cell BK113.out 1).trans rfl
     have hfz48_0 := blk_frozen BK113.out 0
     have hfz48_1 := blk_frozen BK113.out 1
     go_wp2_with (first | ((with_reducible refine gate_callee (f := 28) rfl ?_); refine goesL_ (some 12) rfl rfl Tryd.func28 (by kernel_rfl) rfl #[.agg #[.int .i64 a0_0, .int .i64 a0_1], .agg #[.int .i64 a1_0, .int .i64 a1_1], .agg #[.int .i64 a2_0, .int .i64 a2_1]] rfl zn ?_; (with_reducible refine (spec_pgOn.calls a0_0 a0_1 a1_0 a1_1 a2_0 a2_1 false _ A10.out).mono ?_); rintro e w49 ⟨rfl, hb⟩; refine ⟨_, rfl, ?_⟩; have n0_ := Aside0.mk (blk_below (g := gb111) (o := .cells #[.int .i64 a0_0, .int .i64 a0_1] 33 (0, 0)) zk hb); have n1_ := Aside0.mk (blk_below (g := gb112) (o := .cells #[.int .i64 a1_0, .int .i64 a1_1] 33 (0, 0)) zk hb); have n2_ := Aside0.mk (blk_below (g := gb113) (o := .cells #[.int .i64 a2_0, .int .i64 a2_1] 33 (0, 0)) zk hb); have n3_ := Aside0.mk (blk_below (g := gb114) (o := .cells #[.int .i64 a3_0, .int .i64 a3_1] 33 (0, 0)) zk hb); have n4_ := Aside0.mk (below_step zb hb); clear BK111; clear BK112; clear BK113; clear BK114; clear HB; have BK111 := n0_; have BK112 := n1_; have BK113 := n2_; have BK114 := n3_; have HB := n4_; clear n0_ n1_ n2_ n3_ n4_; (try clear hb); (try clear hb2); (try clear hk); (try clear hi); have hcz50_0 : w49.cell? ⟨gb111, 0, none⟩ = some (.int .i64 a0_0) := (blk_cell BK111.out 0).trans rfl; have hcz50_1 : w49.cell? ⟨gb111, 1, none⟩ = some (.int .i64 a0_1) := (blk_cell BK111.out 1).trans rfl; have hfz50_0 := blk_frozen BK111.out 0; have hfz50_1 := blk_frozen BK111.out 1; have hcz51_0 : w49.cell? ⟨gb112, 0, none⟩ = some (.int .i64 a1_0) := (blk_cell BK112.out 0).trans rfl; have hcz51_1 : w49.cell? ⟨gb112, 1, none⟩ = some (.int .i64 a1_1) := (blk_cell BK112.out 1).trans rfl; have hfz51_0 := blk_frozen BK112.out 0; have hfz51_1 := blk_frozen BK112.out 1; have hcz52_0 : w49.cell? ⟨gb114, 0, none⟩ = some (.int .i64 a3_0) := (blk_cell BK114.out 0).trans rfl; have hcz52_1 : w49.cell? ⟨gb114, 1, none⟩ = some (.int .i64 a3_1) := (blk_cell BK114.out 1).trans rfl; have hfz52_0 := blk_frozen BK114.out 0; have hfz52_1 := blk_frozen BK114.out 1) | (go_at_call 28; (with_reducible refine (spec_pgOn.calls a0_0 a0_1 a1_0 a1_1 a3_0 a3_1 false _ A22.out).mono ?_); rintro e w53 ⟨rfl, hb⟩; have n0_ := Aside0.mk (blk_below (g := gb111) (o := .cells #[.int .i64 a0_0, .int .i64 a0_1] 33 (0, 0)) zk hb); have n1_ := Aside0.mk (blk_below (g := gb112) (o := .cells #[.int .i64 a1_0, .int .i64 a1_1] 33 (0, 0)) zk hb); have n2_ := Aside0.mk (blk_below (g := gb113) (o := .cells #[.int .i64 a2_0, .int .i64 a2_1] 33 (0, 0)) zk hb); have n3_ := Aside0.mk (blk_below (g := gb114) (o := .cells #[.int .i64 a3_0, .int .i64 a3_1] 33 (0, 0)) zk hb); have n4_ := Aside0.mk (below_step zb hb); clear BK111; clear BK112; clear BK113; clear BK114; clear HB; have BK111 := n0_; have BK112 := n1_; have BK113 := n2_; have BK114 := n3_; have HB := n4_; clear n0_ n1_ n2_ n3_ n4_; (try clear hb); (try clear hb2); (try clear hk); (try clear hi); have hcz54_0 : w53.cell? ⟨gb113, 0, none⟩ = some (.int .i64 a2_0) := (blk_cell BK113.out 0).trans rfl; have hcz54_1 : w53.cell? ⟨gb113, 1, none⟩ = some (.int .i64 a2_1) := (blk_cell BK113.out 1).trans rfl; have hfz54_0 := blk_frozen BK113.out 0; have hfz54_1 := blk_frozen BK113.out 1; have hcz55_0 : w53.cell? ⟨gb114, 0, none⟩ = some (.int .i64 a3_0) := (blk_cell BK114.out 0).trans rfl; have hcz55_1 : w53.cell? ⟨gb114, 1, none⟩ = some (.int .i64 a3_1) := (blk_cell BK114.out 1).trans rfl; have hfz55_0 := blk_frozen BK114.out 0; have hfz55_1 := blk_frozen BK114.out 1; have hcz56_0 : w53.cell? ⟨gb111, 0, none⟩ = some (.int .i64 a0_0) := (blk_cell BK111.out 0).trans rfl; have hcz56_1 : w53.cell? ⟨gb111, 1, none⟩ = some (.int .i64 a0_1) := (blk_cell BK111.out 1).trans rfl; have hfz56_0 := blk_frozen BK111.out 0; have hfz56_1 := blk_frozen BK111.out 1) | (go_at_call 28; (with_reducible refine (spec_pgOn.calls a2_0 a2_1 a3_0 a3_1 a0_0 a0_1 true _ A38.out).mono ?_); rintro e w57 ⟨rfl, hb⟩; have n0_ := Aside0.mk (blk_below (g := gb111) (o := .cells #[.int .i64 a0_0, .int .i64 a0_1] 33 (0, 0)) zk hb); have n1_ := Aside0.mk (blk_below (g := gb112) (o := .cells #[.int .i64 a1_0, .int .i64 a1_1] 33 (0, 0)) zk hb); have n2_ := Aside0.mk (blk_below (g := gb113) (o := .cells #[.int .i64 a2_0, .int .i64 a2_1] 33 (0, 0)) zk hb); have n3_ := Aside0.mk (blk_below (g := gb114) (o := .cells #[.int .i64 a3_0, .int .i64 a3_1] 33 (0, 0)) zk hb); have n4_ := Aside0.mk (below_step zb hb); clear BK111; clear BK112; clear BK113; clear BK114; clear HB; have BK111 := n0_; have BK112 := n1_; have BK113 := n2_; have BK114 := n3_; have HB := n4_; clear n0_ n1_ n2_ n3_ n4_; (try clear hb); (try clear hb2); (try clear hk); (try clear hi)))
     go_meet
     case rel => exact ⟨_, (true), (by first | rfl | (simp; done) | (simp [*]; done)), H', ⟨by first | omega | exact Nat.le_refl _⟩, ⟨zk⟩, ⟨zk⟩, ⟨zk⟩, ⟨zk⟩, ⟨zb⟩⟩
    ·replace c39 := Bool.eq_false_iff.mpr c39
     subst c39
     have H1 : ((spec_pgOn.f a2_0 a2_1 a3_0 a3_1 a1_0 a1_1).bind fun t118 => (spec_pgMeet.j0 k t118 a0_0 a0_1 a1_0 a1_1 a2_0 a2_1 a3_0 a3_1)) = some r := by rw [if_neg (show ¬ (false = true) by decide)] at H; exact H
     clear H
     have H := H1
     clear H1
     replace H := Option.bind_eq_some_iff.mp H
     obtain ⟨t118, A580, H⟩ := H
     replace H : (spec_pgMeet.j0 k t118 a0_0 a0_1 a1_0 a1_1 a2_0 a2_1 a3_0 a3_1) = some r := H
     have A58 := Aside0.mk A580
     clear A580
     have H' := Aside0.mk H
     clear H
     have hnb59 := NB111_112.out
     have hnc59 := NB112_111.out
     have hnb60 := NB111_113.out
     have hnc60 := NB113_111.out
     have hnb61 := NB111_114.out
     have hnc61 := NB114_111.out
     have hcz62_0 : w9.cell? ⟨gb111, 0, none⟩ = some (.int .i64 a0_0) := (blk_cell BK111.out 0).trans rfl
     have hcz62_1 : w9.cell? ⟨gb111, 1, none⟩ = some (.int .i64 a0_1) := (blk_cell BK111.out 1).trans rfl
     have hfz62_0 := blk_frozen BK111.out 0
     have hfz62_1 := blk_frozen BK111.out 1
     have hnb63 := NB112_113.out
     have hnc63 := NB113_112.out
     have hnb64 := NB112_114.out
     have hnc64 := NB114_112.out
     have hcz65_0 : w9.cell? ⟨gb112, 0, none⟩ = some (.int .i64 a1_0) := (blk_cell BK112.out 0).trans rfl
     have hcz65_1 : w9.cell? ⟨gb112, 1, none⟩ = some (.int .i64 a1_1) := (blk_cell BK112.out 1).trans rfl
     have hfz65_0 := blk_frozen BK112.out 0
     have hfz65_1 := blk_frozen BK112.out 1
     have hnb66 := NB113_114.out
     have hnc66 := NB114_113.out
     have hcz67_0 : w9.cell? ⟨gb113, 0, none⟩ = some (.int .i64 a2_0) := (blk_cell BK113.out 0).trans rfl
     have hcz67_1 : w9.cell? ⟨gb113, 1, none⟩ = some (.int .i64 a2_1) := (blk_cell BK113.out 1).trans rfl
     have hfz67_0 := blk_frozen BK113.out 0
     have hfz67_1 := blk_frozen BK113.out 1
     go_wp2_with (first | ((with_reducible refine gate_callee (f := 28) rfl ?_); refine goesL_ (some 12) rfl rfl Tryd.func28 (by kernel_rfl) rfl #[.agg #[.int .i64 a0_0, .int .i64 a0_1], .agg #[.int .i64 a1_0, .int .i64 a1_1], .agg #[.int .i64 a2_0, .int .i64 a2_1]] rfl zn ?_; (with_reducible refine (spec_pgOn.calls a0_0 a0_1 a1_0 a1_1 a2_0 a2_1 false _ A10.out).mono ?_); rintro e w68 ⟨rfl, hb⟩; refine ⟨_, rfl, ?_⟩; have n0_ := Aside0.mk (blk_below (g := gb111) (o := .cells #[.int .i64 a0_0, .int .i64 a0_1] 33 (0, 0)) zk hb); have n1_ := Aside0.mk (blk_below (g := gb112) (o := .cells #[.int .i64 a1_0, .int .i64 a1_1] 33 (0, 0)) zk hb); have n2_ := Aside0.mk (blk_below (g := gb113) (o := .cells #[.int .i64 a2_0, .int .i64 a2_1] 33 (0, 0)) zk hb); have n3_ := Aside0.mk (blk_below (g := gb114) (o := .cells #[.int .i64 a3_0, .int .i64 a3_1] 33 (0, 0)) zk hb); have n4_ := Aside0.mk (below_step zb hb); clear BK111; clear BK112; clear BK113; clear BK114; clear HB; have BK111 := n0_; have BK112 := n1_; have BK113 := n2_; have BK114 := n3_; have HB := n4_; clear n0_ n1_ n2_ n3_ n4_; (try clear hb); (try clear hb2); (try clear hk); (try clear hi); have hcz69_0 : w68.cell? ⟨gb111, 0, none⟩ = some (.int .i64 a0_0) := (blk_cell BK111.out 0).trans rfl; have hcz69_1 : w68.cell? ⟨gb111, 1, none⟩ = some (.int .i64 a0_1) := (blk_cell BK111.out 1).trans rfl; have hfz69_0 := blk_frozen BK111.out 0; have hfz69_1 := blk_frozen BK111.out 1; have hcz70_0 : w68.cell? ⟨gb112, 0, none⟩ = some (.int .i64 a1_0) := (blk_cell BK112.out 0).trans rfl; have hcz70_1 : w68.cell? ⟨gb112, 1, none⟩ = some (.int .i64 a1_1) := (blk_cell BK112.out 1).trans rfl; have hfz70_0 := blk_frozen BK112.out 0; have hfz70_1 := blk_frozen BK112.out 1; have hcz71_0 : w68.cell? ⟨gb114, 0, none⟩ = some (.int .i64 a3_0) := (blk_cell BK114.out 0).trans rfl; have hcz71_1 : w68.cell? ⟨gb114, 1, none⟩ = some (.int .i64 a3_1) := (blk_cell BK114.out 1).trans rfl; have hfz71_0 := blk_frozen BK114.out 0; have hfz71_1 := blk_frozen BK114.out 1) | (go_at_call 28; (with_reducible refine (spec_pgOn.calls a0_0 a0_1 a1_0 a1_1 a3_0 a3_1 false _ A22.out).mono ?_); rintro e w72 ⟨rfl, hb⟩; have n0_ := Aside0.mk (blk_below (g := gb111) (o := .cells #[.int .i64 a0_0, .int .i64 a0_1] 33 (0, 0)) zk hb); have n1_ := Aside0.mk (blk_below (g := gb112) (o := .cells #[.int .i64 a1_0, .int .i64 a1_1] 33 (0, 0)) zk hb); have n2_ := Aside0.mk (blk_below (g := gb113) (o := .cells #[.int .i64 a2_0, .int .i64 a2_1] 33 (0, 0)) zk hb); have n3_ := Aside0.mk (blk_below (g := gb114) (o := .cells #[.int .i64 a3_0, .int .i64 a3_1] 33 (0, 0)) zk hb); have n4_ := Aside0.mk (below_step zb hb); clear BK111; clear BK112; clear BK113; clear BK114; clear HB; have BK111 := n0_; have BK112 := n1_; have BK113 := n2_; have BK114 := n3_; have HB := n4_; clear n0_ n1_ n2_ n3_ n4_; (try clear hb); (try clear hb2); (try clear hk); (try clear hi); have hcz73_0 : w72.cell? ⟨gb113, 0, none⟩ = some (.int .i64 a2_0) := (blk_cell BK113.out 0).trans rfl; have hcz73_1 : w72.cell? ⟨gb113, 1, none⟩ = some (.int .i64 a2_1) := (blk_cell BK113.out 1).trans rfl; have hfz73_0 := blk_frozen BK113.out 0; have hfz73_1 := blk_frozen BK113.out 1; have hcz74_0 : w72.cell? ⟨gb114, 0, none⟩ = some (.int .i64 a3_0) := (blk_cell BK114.out 0).trans rfl; have hcz74_1 : w72.cell? ⟨gb114, 1, none⟩ = some (.int .i64 a3_1) := (blk_cell BK114.out 1).trans rfl; have hfz74_0 := blk_frozen BK114.out 0; have hfz74_1 := blk_frozen BK114.out 1; have hcz75_0 : w72.cell? ⟨gb111, 0, none⟩ = some (.int .i64 a0_0) := (blk_cell BK111.out 0).trans rfl; have hcz75_1 : w72.cell? ⟨gb111, 1, none⟩ = some (.int .i64 a0_1) := (blk_cell BK111.out 1).trans rfl; have hfz75_0 := blk_frozen BK111.out 0; have hfz75_1 := blk_frozen BK111.out 1) | (go_at_call 28; (with_reducible refine (spec_pgOn.calls a2_0 a2_1 a3_0 a3_1 a0_0 a0_1 false _ A38.out).mono ?_); rintro e w76 ⟨rfl, hb⟩; have n0_ := Aside0.mk (blk_below (g := gb111) (o := .cells #[.int .i64 a0_0, .int .i64 a0_1] 33 (0, 0)) zk hb); have n1_ := Aside0.mk (blk_below (g := gb112) (o := .cells #[.int .i64 a1_0, .int .i64 a1_1] 33 (0, 0)) zk hb); have n2_ := Aside0.mk (blk_below (g := gb113) (o := .cells #[.int .i64 a2_0, .int .i64 a2_1] 33 (0, 0)) zk hb); have n3_ := Aside0.mk (blk_below (g := gb114) (o := .cells #[.int .i64 a3_0, .int .i64 a3_1] 33 (0, 0)) zk hb); have n4_ := Aside0.mk (below_step zb hb); clear BK111; clear BK112; clear BK113; clear BK114; clear HB; have BK111 := n0_; have BK112 := n1_; have BK113 := n2_; have BK114 := n3_; have HB := n4_; clear n0_ n1_ n2_ n3_ n4_; (try clear hb); (try clear hb2); (try clear hk); (try clear hi); have hcz77_0 : w76.cell? ⟨gb113, 0, none⟩ = some (.int .i64 a2_0) := (blk_cell BK113.out 0).trans rfl; have hcz77_1 : w76.cell? ⟨gb113, 1, none⟩ = some (.int .i64 a2_1) := (blk_cell BK113.out 1).trans rfl; have hfz77_0 := blk_frozen BK113.out 0; have hfz77_1 := blk_frozen BK113.out 1; have hcz78_0 : w76.cell? ⟨gb114, 0, none⟩ = some (.int .i64 a3_0) := (blk_cell BK114.out 0).trans rfl; have hcz78_1 : w76.cell? ⟨gb114, 1, none⟩ = some (.int .i64 a3_1) := (blk_cell BK114.out 1).trans rfl; have hfz78_0 := blk_frozen BK114.out 0; have hfz78_1 := blk_frozen BK114.out 1; have hcz79_0 : w76.cell? ⟨gb112, 0, none⟩ = some (.int .i64 a1_0) := (blk_cell BK112.out 0).trans rfl; have hcz79_1 : w76.cell? ⟨gb112, 1, none⟩ = some (.int .i64 a1_1) := (blk_cell BK112.out 1).trans rfl; have hfz79_0 := blk_frozen BK112.out 0; have hfz79_1 := blk_frozen BK112.out 1) | (go_at_call 28; (with_reducible refine (spec_pgOn.calls a2_0 a2_1 a3_0 a3_1 a1_0 a1_1 t118 _ A58.out).mono ?_); rintro e w80 ⟨rfl, hb⟩; have n0_ := Aside0.mk (blk_below (g := gb111) (o := .cells #[.int .i64 a0_0, .int .i64 a0_1] 33 (0, 0)) zk hb); have n1_ := Aside0.mk (blk_below (g := gb112) (o := .cells #[.int .i64 a1_0, .int .i64 a1_1] 33 (0, 0)) zk hb); have n2_ := Aside0.mk (blk_below (g := gb113) (o := .cells #[.int .i64 a2_0, .int .i64 a2_1] 33 (0, 0)) zk hb); have n3_ := Aside0.mk (blk_below (g := gb114) (o := .cells #[.int .i64 a3_0, .int .i64 a3_1] 33 (0, 0)) zk hb); have n4_ := Aside0.mk (below_step zb hb); clear BK111; clear BK112; clear BK113; clear BK114; clear HB; have BK111 := n0_; have BK112 := n1_; have BK113 := n2_; have BK114 := n3_; have HB := n4_; clear n0_ n1_ n2_ n3_ n4_; (try clear hb); (try clear hb2); (try clear hk); (try clear hi)))
     go_meet
     case rel => exact ⟨_, (t118), (by first | rfl | (simp; done) | (simp [*]; done)), H', ⟨by first | omega | exact Nat.le_refl _⟩, ⟨zk⟩, ⟨zk⟩, ⟨zk⟩, ⟨zk⟩, ⟨zb⟩⟩
 case rest =>
  clear HC5
  try clear c1
  try clear c2
  try clear p2
  try clear c3
  try clear c4
  try clear c5
  try clear c6
  try clear c11
  try clear c12
  try clear c13
  try clear c14
  try clear c16
  try clear c17
  try clear c18
  try clear c19
  try clear c23
  try clear c24
  try clear c25
  try clear c26
  try clear c28
  try clear c29
  try clear c31
  try clear c39
  try clear c40
  try clear c41
  try clear c42
  try clear c44
  try clear c45
  try clear c47
  try clear c59
  try clear c60
  try clear c61
  try clear c63
  try clear c64
  try clear c66
  try clear hcz15_0
  try clear hcz15_1
  try clear hcz18_0
  try clear hcz18_1
  try clear hcz20_0
  try clear hcz20_1
  try clear hcz27_0
  try clear hcz27_1
  try clear hcz30_0
  try clear hcz30_1
  try clear hcz32_0
  try clear hcz32_1
  try clear hcz34_0
  try clear hcz34_1
  try clear hcz35_0
  try clear hcz35_1
  try clear hcz36_0
  try clear hcz36_1
  try clear hcz43_0
  try clear hcz43_1
  try clear hcz46_0
  try clear hcz46_1
  try clear hcz48_0
  try clear hcz48_1
  try clear hcz50_0
  try clear hcz50_1
  try clear hcz51_0
  try clear hcz51_1
  try clear hcz52_0
  try clear hcz52_1
  try clear hcz54_0
  try clear hcz54_1
  try clear hcz55_0
  try clear hcz55_1
  try clear hcz56_0
  try clear hcz56_1
  try clear hcz62_0
  try clear hcz62_1
  try clear hcz65_0
  try clear hcz65_1
  try clear hcz67_0
  try clear hcz67_1
  try clear hcz69_0
  try clear hcz69_1
  try clear hcz70_0
  try clear hcz70_1
  try clear hcz71_0
  try clear hcz71_1
  try clear hcz73_0
  try clear hcz73_1
  try clear hcz74_0
  try clear hcz74_1
  try clear hcz75_0
  try clear hcz75_1
  try clear hcz77_0
  try clear hcz77_1
  try clear hcz78_0
  try clear hcz78_1
  try clear hcz79_0
  try clear hcz79_1
  try clear hfz15_0
  try clear hfz15_1
  try clear hfz18_0
  try clear hfz18_1
  try clear hfz20_0
  try clear hfz20_1
  try clear hfz27_0
  try clear hfz27_1
  try clear hfz30_0
  try clear hfz30_1
  try clear hfz32_0
  try clear hfz32_1
  try clear hfz34_0
  try clear hfz34_1
  try clear hfz35_0
  try clear hfz35_1
  try clear hfz36_0
  try clear hfz36_1
  try clear hfz43_0
  try clear hfz43_1
  try clear hfz46_0
  try clear hfz46_1
  try clear hfz48_0
  try clear hfz48_1
  try clear hfz50_0
  try clear hfz50_1
  try clear hfz51_0
  try clear hfz51_1
  try clear hfz52_0
  try clear hfz52_1
  try clear hfz54_0
  try clear hfz54_1
  try clear hfz55_0
  try clear hfz55_1
  try clear hfz56_0
  try clear hfz56_1
  try clear hfz62_0
  try clear hfz62_1
  try clear hfz65_0
  try clear hfz65_1
  try clear hfz67_0
  try clear hfz67_1
  try clear hfz69_0
  try clear hfz69_1
  try clear hfz70_0
  try clear hfz70_1
  try clear hfz71_0
  try clear hfz71_1
  try clear hfz73_0
  try clear hfz73_1
  try clear hfz74_0
  try clear hfz74_1
  try clear hfz75_0
  try clear hfz75_1
  try clear hfz77_0
  try clear hfz77_1
  try clear hfz78_0
  try clear hfz78_1
  try clear hfz79_0
  try clear hfz79_1
  obtain ⟨kq, x30_4, rfl, HA, HJ4, BK111, BK112, BK113, BK114, HB⟩ := hcut
  cases kq with
  | zero => exact absurd HA.out (by simp [spec_pgMeet.j0])
  | succ kj4 =>
   have H := HA.out
   clear HA
   simp only [spec_pgMeet.j0] at H
   by_cases c81 : x30_4 = true
   ·subst c81
    have H1 : (some true) = some r := by rw [if_pos rfl] at H; exact H
    clear H
    have H := H1
    clear H1
    obtain rfl := Option.some.inj H
    go_wp2
    go_ret
    exact ⟨by first | rfl | (simp [errW_none, errW_some] <;> rfl) | (simp [*, errW_none, errW_some] <;> rfl), zb⟩
   ·replace c81 := Bool.eq_false_iff.mpr c81
    subst c81
    have H1 : ((spec_pgTurn.f a0_0 a0_1 a1_0 a1_1 a2_0 a2_1).bind fun t119 => ((spec_l1Sign.f t119).bind fun t120 => ((spec_pgTurn.f a0_0 a0_1 a1_0 a1_1 a3_0 a3_1).bind fun t121 => ((spec_l1Sign.f t121).bind fun t122 => (if (wrap64 (t120 * t122)) < 0 then ((spec_pgTurn.f a2_0 a2_1 a3_0 a3_1 a0_0 a0_1).bind fun t123 => ((spec_l1Sign.f t123).bind fun t124 => ((spec_pgTurn.f a2_0 a2_1 a3_0 a3_1 a1_0 a1_1).bind fun t125 => ((spec_l1Sign.f t125).bind fun t126 => (some (decide ((wrap64 (t124 * t126)) < 0))))))) else (some false)))))) = some r := by rw [if_neg (show ¬ (false = true) by decide)] at H; exact H
    clear H
    have H := H1
    clear H1
    replace H := Option.bind_eq_some_iff.mp H
    obtain ⟨t119, A820, H⟩ := H
    replace H : ((spec_l1Sign.f t119).bind fun t120 => ((spec_pgTurn.f a0_0 a0_1 a1_0 a1_1 a3_0 a3_1).bind fun t121 => ((spec_l1Sign.f t121).bind fun t122 => (if (wrap64 (t120 * t122)) < 0 then ((spec_pgTurn.f a2_0 a2_1 a3_0 a3_1 a0_0 a0_1).bind fun t123 => ((spec_l1Sign.f t123).bind fun t124 => ((spec_pgTurn.f a2_0 a2_1 a3_0 a3_1 a1_0 a1_1).bind fun t125 => ((spec_l1Sign.f t125).bind fun t126 => (some (decide ((wrap64 (t124 * t126)) < 0))))))) else (some false))))) = some r := H
    have A82 := Aside0.mk A820
    clear A820
    replace H := Option.bind_eq_some_iff.mp H
    obtain ⟨t120, A830, H⟩ := H
    replace H : ((spec_pgTurn.f a0_0 a0_1 a1_0 a1_1 a3_0 a3_1).bind fun t121 => ((spec_l1Sign.f t121).bind fun t122 => (if (wrap64 (t120 * t122)) < 0 then ((spec_pgTurn.f a2_0 a2_1 a3_0 a3_1 a0_0 a0_1).bind fun t123 => ((spec_l1Sign.f t123).bind fun t124 => ((spec_pgTurn.f a2_0 a2_1 a3_0 a3_1 a1_0 a1_1).bind fun t125 => ((spec_l1Sign.f t125).bind fun t126 => (some (decide ((wrap64 (t124 * t126)) < 0))))))) else (some false)))) = some r := H
    have A83 := Aside0.mk A830
    clear A830
    replace H := Option.bind_eq_some_iff.mp H
    obtain ⟨t121, A840, H⟩ := H
    replace H : ((spec_l1Sign.f t121).bind fun t122 => (if (wrap64 (t120 * t122)) < 0 then ((spec_pgTurn.f a2_0 a2_1 a3_0 a3_1 a0_0 a0_1).bind fun t123 => ((spec_l1Sign.f t123).bind fun t124 => ((spec_pgTurn.f a2_0 a2_1 a3_0 a3_1 a1_0 a1_1).bind fun t125 => ((spec_l1Sign.f t125).bind fun t126 => (some (decide ((wrap64 (t124 * t126)) < 0))))))) else (some false))) = some r := H
    have A84 := Aside0.mk A840
    clear A840
    replace H := Option.bind_eq_some_iff.mp H
    obtain ⟨t122, A850, H⟩ := H
    replace H : (if (wrap64 (t120 * t122)) < 0 then ((spec_pgTurn.f a2_0 a2_1 a3_0 a3_1 a0_0 a0_1).bind fun t123 => ((spec_l1Sign.f t123).bind fun t124 => ((spec_pgTurn.f a2_0 a2_1 a3_0 a3_1 a1_0 a1_1).bind fun t125 => ((spec_l1Sign.f t125).bind fun t126 => (some (decide ((wrap64 (t124 * t126)) < 0))))))) else (some false)) = some r := H
    have A85 := Aside0.mk A850
    clear A850
    by_cases c86 : (wrap64 (t120 * t122)) < 0
    ·rw [if_pos c86] at H
     have c86b0 : decide ((wrap64 (t120 * t122)) < 0) = true := decide_eq_true c86
     clear c86
     replace H := Option.bind_eq_some_iff.mp H
     obtain ⟨t123, A870, H⟩ := H
     replace H : ((spec_l1Sign.f t123).bind fun t124 => ((spec_pgTurn.f a2_0 a2_1 a3_0 a3_1 a1_0 a1_1).bind fun t125 => ((spec_l1Sign.f t125).bind fun t126 => (some (decide ((wrap64 (t124 * t126)) < 0)))))) = some r := H
     have A87 := Aside0.mk A870
     clear A870
     replace H := Option.bind_eq_some_iff.mp H
     obtain ⟨t124, A880, H⟩ := H
     replace H : ((spec_pgTurn.f a2_0 a2_1 a3_0 a3_1 a1_0 a1_1).bind fun t125 => ((spec_l1Sign.f t125).bind fun t126 => (some (decide ((wrap64 (t124 * t126)) < 0))))) = some r := H
     have A88 := Aside0.mk A880
     clear A880
     replace H := Option.bind_eq_some_iff.mp H
     obtain ⟨t125, A890, H⟩ := H
     replace H : ((spec_l1Sign.f t125).bind fun t126 => (some (decide ((wrap64 (t124 * t126)) < 0)))) = some r := H
     have A89 := Aside0.mk A890
     clear A890
     replace H := Option.bind_eq_some_iff.mp H
     obtain ⟨t126, A900, H⟩ := H
     replace H : (some (decide ((wrap64 (t124 * t126)) < 0))) = some r := H
     have A90 := Aside0.mk A900
     clear A900
     obtain rfl := Option.some.inj H
     try go_wp2
     have n0_ := Aside0.mk (blk_drew BK111.out)
     have n1_ := Aside0.mk (blk_drew BK112.out)
     have n2_ := Aside0.mk (blk_drew BK113.out)
     have n3_ := Aside0.mk (blk_drew BK114.out)
     have n4_ := Aside0.mk (below_drew1 HB.out)
     clear BK111
     clear BK112
     clear BK113
     clear BK114
     clear HB
     have BK111 := n0_
     have BK112 := n1_
     have BK113 := n2_
     have BK114 := n3_
     have HB := n4_
     clear n0_ n1_ n2_ n3_ n4_
     refine start_ (n := 27) (S := fun w' => w'.cell? ⟨gb111, 0, none⟩ = some (.int .i64 a0_0) ∧ w'.cell? ⟨gb111, 1, none⟩ = some (.int .i64 a0_1) ∧ w'.cell? ⟨gb112, 0, none⟩ = some (.int .i64 a1_0) ∧ w'.cell? ⟨gb112, 1, none⟩ = some (.int .i64 a1_1) ∧ w'.cell? ⟨gb113, 0, none⟩ = some (.int .i64 a2_0) ∧ w'.cell? ⟨gb113, 1, none⟩ = some (.int .i64 a2_1) ∧ w'.cell? ⟨gb114, 0, none⟩ = some (.int .i64 a3_0) ∧ w'.cell? ⟨gb114, 1, none⟩ = some (.int .i64 a3_1)) (ds := []) (zl 27 0) (by kernel_rfl) rfl rfl ⟨(blk_cell BK111.out 0).trans rfl, (blk_cell BK111.out 1).trans rfl, (blk_cell BK112.out 0).trans rfl, (blk_cell BK112.out 1).trans rfl, (blk_cell BK113.out 0).trans rfl, (blk_cell BK113.out 1).trans rfl, (blk_cell BK114.out 0).trans rfl, (blk_cell BK114.out 1).trans rfl⟩ (fun hHeld => ?_); refine with_tabW spec_pgMeet.tab3 spec_pgMeet.bits3 (fun HT_ HW_ => ?_)
     generalize wc.drew = w91 at BK111 BK112 BK113 BK114 HB hHeld ⊢
     refine take_ (i := 0) (N := some 31) (v := ?_) (a' := ?_) (zl 27 1) rfl rfl (take_ofW HT_.out HW_.out (by kernel_rfl)) (fun _ _ _ h => h) (Or.inl ⟨by rfl, ?_⟩) hHeld ?_ ?_
     rotate_left
     ·rintro w' ⟨s0, s1, s2, s3, s4, s5, s6, s7⟩
      go_simp
      with_reducible rfl
     rotate_left
     ·exact zs
     refine take_ (i := 1) (N := some 32) (v := ?_) (a' := ?_) (zl 27 3) rfl rfl (take_ofW HT_.out HW_.out (by kernel_rfl)) (fun _ _ _ h => h) (Or.inl ⟨by rfl, ?_⟩) hHeld ?_ ?_
     rotate_left
     ·rintro w' ⟨s0, s1, s2, s3, s4, s5, s6, s7⟩
      go_simp
      with_reducible rfl
     rotate_left
     ·exact zs
     refine take_ (i := 2) (N := some 33) (v := ?_) (a' := ?_) (zl 27 7) rfl rfl (take_ofW HT_.out HW_.out (by kernel_rfl)) (fun _ _ _ h => h) (Or.inl ⟨by rfl, ?_⟩) hHeld ?_ ?_
     rotate_left
     ·rintro w' ⟨s0, s1, s2, s3, s4, s5, s6, s7⟩
      go_simp
      with_reducible rfl
     rotate_left
     ·exact zs
     refine take_ (i := 5) (N := some 36) (v := ?_) (a' := ?_) (zl 27 39) rfl rfl (take_ofW HT_.out HW_.out (by kernel_rfl)) (fun _ _ _ h => h) (Or.inl ⟨by rfl, ?_⟩) hHeld ?_ ?_
     rotate_left
     ·rintro w' ⟨s0, s1, s2, s3, s4, s5, s6, s7⟩
      go_simp
      with_reducible rfl
     rotate_left
     ·exact zs
     refine take_ (i := 6) (N := some 37) (v := ?_) (a' := ?_) (zl 27 103) rfl rfl (take_ofW HT_.out HW_.out (by kernel_rfl)) (fun _ _ _ h => h) (Or.inl ⟨by rfl, ?_⟩) hHeld ?_ ?_
     rotate_left
     ·rintro w' ⟨s0, s1, s2, s3, s4, s5, s6, s7⟩
      go_simp
      with_reducible rfl
     rotate_left
     ·exact zs
     refine take_ (i := 7) (N := some 38) (v := ?_) (a' := ?_) (zl 27 231) rfl rfl (take_ofW HT_.out HW_.out (by kernel_rfl)) (fun _ _ _ h => h) (Or.inl ⟨by rfl, ?_⟩) hHeld ?_ ?_
     rotate_left
     ·rintro w' ⟨s0, s1, s2, s3, s4, s5, s6, s7⟩
      go_simp
      with_reducible rfl
     rotate_left
     ·exact zs
     refine one_ (i := 3) (N := some 34) (zl 27 239) rfl rfl (one_of HT_.out (by kernel_rfl)) (by decide) (fun K hK => ?_)
     refine goes_ Tryd.func17 (by kernel_rfl) rfl #[.agg #[.int .i64 a0_0, .int .i64 a0_1], .agg #[.int .i64 a1_0, .int .i64 a1_1], .agg #[.int .i64 a2_0, .int .i64 a2_1]] (by rfl) rfl rfl zn ?_
     with_reducible refine (spec_pgTurn.calls a0_0 a0_1 a1_0 a1_1 a2_0 a2_1 t119 _ A82.out).mono ?_
     rintro e w92 ⟨rfl, hb⟩
     refine ⟨_, rfl, ?_⟩
     have n0_ := Aside0.mk (blk_below (g := gb111) (o := .cells #[.int .i64 a0_0, .int .i64 a0_1] 33 (0, 0)) zk hb)
     have n1_ := Aside0.mk (blk_below (g := gb112) (o := .cells #[.int .i64 a1_0, .int .i64 a1_1] 33 (0, 0)) zk hb)
     have n2_ := Aside0.mk (blk_below (g := gb113) (o := .cells #[.int .i64 a2_0, .int .i64 a2_1] 33 (0, 0)) zk hb)
     have n3_ := Aside0.mk (blk_below (g := gb114) (o := .cells #[.int .i64 a3_0, .int .i64 a3_1] 33 (0, 0)) zk hb)
     have n4_ := Aside0.mk (below_step zb hb)
     clear BK111
     clear BK112
     clear BK113
     clear BK114
     clear HB
     have BK111 := n0_
     have BK112 := n1_
     have BK113 := n2_
     have BK114 := n3_
     have HB := n4_
     clear n0_ n1_ n2_ n3_ n4_
     (try clear hb)
     (try clear hb2)
     (try clear hk)
     (try clear hi)
     refine hK.out _ _ ⟨(blk_cell BK111.out 0).trans rfl, (blk_cell BK111.out 1).trans rfl, (blk_cell BK112.out 0).trans rfl, (blk_cell BK112.out 1).trans rfl, (blk_cell BK113.out 0).trans rfl, (blk_cell BK113.out 1).trans rfl, (blk_cell BK114.out 0).trans rfl, (blk_cell BK114.out 1).trans rfl⟩ (fun hHeld => ?_)
     clear hK K
     refine norm_ (a' := ?_) ?_ ?_
     rotate_left
     ·show Act.put _ (some 34) _ = _
      exact zs
     refine one_ (i := 4) (N := some 35) (zl 27 255) rfl rfl (one_of HT_.out (by kernel_rfl)) (by decide) (fun K hK => ?_)
     refine goes_ Tryd.func29 (by kernel_rfl) rfl #[.int .i64 t119] (by rfl) rfl rfl zn ?_
     with_reducible refine (spec_l1Sign.calls t119 t120 _ A83.out).mono ?_
     rintro e w' ⟨rfl, ⟨nd, rfl⟩⟩
     refine ⟨_, rfl, ?_⟩
     refine hK.out _ _ ⟨(blk_cell BK111.out 0).trans rfl, (blk_cell BK111.out 1).trans rfl, (blk_cell BK112.out 0).trans rfl, (blk_cell BK112.out 1).trans rfl, (blk_cell BK113.out 0).trans rfl, (blk_cell BK113.out 1).trans rfl, (blk_cell BK114.out 0).trans rfl, (blk_cell BK114.out 1).trans rfl⟩ (fun hHeld => ?_)
     clear hK K
     refine norm_ (a' := ?_) ?_ ?_
     rotate_left
     ·show Act.put _ (some 35) _ = _
      exact zs
     refine one_ (i := 8) (N := some 39) (zl 27 511) rfl rfl (one_of HT_.out (by kernel_rfl)) (by decide) (fun K hK => ?_)
     refine goes_ Tryd.func17 (by kernel_rfl) rfl #[.agg #[.int .i64 a0_0, .int .i64 a0_1], .agg #[.int .i64 a1_0, .int .i64 a1_1], .agg #[.int .i64 a3_0, .int .i64 a3_1]] (by rfl) rfl rfl zn ?_
     with_reducible refine (spec_pgTurn.calls a0_0 a0_1 a1_0 a1_1 a3_0 a3_1 t121 _ A84.out).mono ?_
     rintro e w93 ⟨rfl, hb⟩
     refine ⟨_, rfl, ?_⟩
     have n0_ := Aside0.mk (blk_below (g := gb111) (o := .cells #[.int .i64 a0_0, .int .i64 a0_1] 33 (0, 0)) zk hb)
     have n1_ := Aside0.mk (blk_below (g := gb112) (o := .cells #[.int .i64 a1_0, .int .i64 a1_1] 33 (0, 0)) zk hb)
     have n2_ := Aside0.mk (blk_below (g := gb113) (o := .cells #[.int .i64 a2_0, .int .i64 a2_1] 33 (0, 0)) zk hb)
     have n3_ := Aside0.mk (blk_below (g := gb114) (o := .cells #[.int .i64 a3_0, .int .i64 a3_1] 33 (0, 0)) zk hb)
     have n4_ := Aside0.mk (below_step zb hb)
     clear BK111
     clear BK112
     clear BK113
     clear BK114
     clear HB
     have BK111 := n0_
     have BK112 := n1_
     have BK113 := n2_
     have BK114 := n3_
     have HB := n4_
     clear n0_ n1_ n2_ n3_ n4_
     (try clear hb)
     (try clear hb2)
     (try clear hk)
     (try clear hi)
     refine hK.out _ _ ⟨(blk_cell BK111.out 0).trans rfl, (blk_cell BK111.out 1).trans rfl, (blk_cell BK112.out 0).trans rfl, (blk_cell BK112.out 1).trans rfl, (blk_cell BK113.out 0).trans rfl, (blk_cell BK113.out 1).trans rfl, (blk_cell BK114.out 0).trans rfl, (blk_cell BK114.out 1).trans rfl⟩ (fun hHeld => ?_)
     clear hK K
     refine norm_ (a' := ?_) ?_ ?_
     rotate_left
     ·show Act.put _ (some 39) _ = _
      exact zs
     refine one_ (i := 9) (N := some 40) (zl 27 1023) rfl rfl (one_of HT_.out (by kernel_rfl)) (by decide) (fun K hK => ?_)
     refine goes_ Tryd.func29 (by kernel_rfl) rfl #[.int .i64 t121] (by rfl) rfl rfl zn ?_
     with_reducible refine (spec_l1Sign.calls t121 t122 _ A85.out).mono ?_
     rintro e w' ⟨rfl, ⟨nd, rfl⟩⟩
     refine ⟨_, rfl, ?_⟩
     refine hK.out _ _ ⟨(blk_cell BK111.out 0).trans rfl, (blk_cell BK111.out 1).trans rfl, (blk_cell BK112.out 0).trans rfl, (blk_cell BK112.out 1).trans rfl, (blk_cell BK113.out 0).trans rfl, (blk_cell BK113.out 1).trans rfl, (blk_cell BK114.out 0).trans rfl, (blk_cell BK114.out 1).trans rfl⟩ (fun hHeld => ?_)
     clear hK K
     refine norm_ (a' := ?_) ?_ ?_
     rotate_left
     ·show Act.put _ (some 40) _ = _
      exact zs
     refine zp 10 41 27 2047 HT_ ?_
     refine zp 11 42 27 4095 HT_ ?_
     refine zp 12 43 27 8191 HT_ ?_
     refine take_ (i := 13) (N := some 44) (v := ?_) (a' := ?_) (zl 27 16383) rfl rfl (take_ofW HT_.out HW_.out (by kernel_rfl)) (fun _ _ _ h => h) (Or.inl ⟨by rfl, ?_⟩) hHeld ?_ ?_
     rotate_left
     ·rintro w' ⟨s0, s1, s2, s3, s4, s5, s6, s7⟩
      go_simp
      with_reducible rfl
     rotate_left
     ·exact zs
     refine take_ (i := 14) (N := some 45) (v := ?_) (a' := ?_) (zl 27 32767) rfl rfl (take_ofW HT_.out HW_.out (by kernel_rfl)) (fun _ _ _ h => h) (Or.inl ⟨by rfl, ?_⟩) hHeld ?_ ?_
     rotate_left
     ·rintro w' ⟨s0, s1, s2, s3, s4, s5, s6, s7⟩
      go_simp
      with_reducible rfl
     rotate_left
     ·exact zs
     refine take_ (i := 15) (N := some 46) (v := ?_) (a' := ?_) (zl 27 65535) rfl rfl (take_ofW HT_.out HW_.out (by kernel_rfl)) (fun _ _ _ h => h) (Or.inl ⟨by rfl, ?_⟩) hHeld ?_ ?_
     rotate_left
     ·rintro w' ⟨s0, s1, s2, s3, s4, s5, s6, s7⟩
      go_simp
      with_reducible rfl
     rotate_left
     ·exact zs
     refine take_ (i := 18) (N := some 49) (v := ?_) (a' := ?_) (zl 27 327679) rfl rfl (take_ofW HT_.out HW_.out (by kernel_rfl)) (fun _ _ _ h => h) (Or.inl ⟨by rfl, ?_⟩) hHeld ?_ ?_
     rotate_left
     ·rintro w' ⟨s0, s1, s2, s3, s4, s5, s6, s7⟩
      go_simp
      with_reducible rfl
     rotate_left
     ·exact zs
     refine take_ (i := 19) (N := some 50) (v := ?_) (a' := ?_) (zl 27 851967) rfl rfl (take_ofW HT_.out HW_.out (by kernel_rfl)) (fun _ _ _ h => h) (Or.inl ⟨by rfl, ?_⟩) hHeld ?_ ?_
     rotate_left
     ·rintro w' ⟨s0, s1, s2, s3, s4, s5, s6, s7⟩
      go_simp
      with_reducible rfl
     rotate_left
     ·exact zs
     refine take_ (i := 20) (N := some 51) (v := ?_) (a' := ?_) (zl 27 1900543) rfl rfl (take_ofW HT_.out HW_.out (by kernel_rfl)) (fun _ _ _ h => h) (Or.inl ⟨by rfl, ?_⟩) hHeld ?_ ?_
     rotate_left
     ·rintro w' ⟨s0, s1, s2, s3, s4, s5, s6, s7⟩
      go_simp
      with_reducible rfl
     rotate_left
     ·exact zs
     refine one_ (i := 16) (N := some 47) (zl 27 1966079) rfl rfl (one_of HT_.out (by kernel_rfl)) (by decide) (fun K hK => ?_)
     refine goes_ Tryd.func17 (by kernel_rfl) rfl #[.agg #[.int .i64 a2_0, .int .i64 a2_1], .agg #[.int .i64 a3_0, .int .i64 a3_1], .agg #[.int .i64 a0_0, .int .i64 a0_1]] (by rfl) rfl rfl zn ?_
     with_reducible refine (spec_pgTurn.calls a2_0 a2_1 a3_0 a3_1 a0_0 a0_1 t123 _ A87.out).mono ?_
     rintro e w94 ⟨rfl, hb⟩
     refine ⟨_, rfl, ?_⟩
     have n0_ := Aside0.mk (blk_below (g := gb111) (o := .cells #[.int .i64 a0_0, .int .i64 a0_1] 33 (0, 0)) zk hb)
     have n1_ := Aside0.mk (blk_below (g := gb112) (o := .cells #[.int .i64 a1_0, .int .i64 a1_1] 33 (0, 0)) zk hb)
     have n2_ := Aside0.mk (blk_below (g := gb113) (o := .cells #[.int .i64 a2_0, .int .i64 a2_1] 33 (0, 0)) zk hb)
     have n3_ := Aside0.mk (blk_below (g := gb114) (o := .cells #[.int .i64 a3_0, .int .i64 a3_1] 33 (0, 0)) zk hb)
     have n4_ := Aside0.mk (below_step zb hb)
     clear BK111
     clear BK112
     clear BK113
     clear BK114
     clear HB
     have BK111 := n0_
     have BK112 := n1_
     have BK113 := n2_
     have BK114 := n3_
     have HB := n4_
     clear n0_ n1_ n2_ n3_ n4_
     (try clear hb)
     (try clear hb2)
     (try clear hk)
     (try clear hi)
     refine hK.out _ _ ⟨(blk_cell BK111.out 0).trans rfl, (blk_cell BK111.out 1).trans rfl, (blk_cell BK112.out 0).trans rfl, (blk_cell BK112.out 1).trans rfl, (blk_cell BK113.out 0).trans rfl, (blk_cell BK113.out 1).trans rfl, (blk_cell BK114.out 0).trans rfl, (blk_cell BK114.out 1).trans rfl⟩ (fun hHeld => ?_)
     clear hK K
     refine norm_ (a' := ?_) ?_ ?_
     rotate_left
     ·show Act.put _ (some 47) _ = _
      exact zs
     refine one_ (i := 17) (N := some 48) (zl 27 2097151) rfl rfl (one_of HT_.out (by kernel_rfl)) (by decide) (fun K hK => ?_)
     refine goes_ Tryd.func29 (by kernel_rfl) rfl #[.int .i64 t123] (by rfl) rfl rfl zn ?_
     with_reducible refine (spec_l1Sign.calls t123 t124 _ A88.out).mono ?_
     rintro e w' ⟨rfl, ⟨nd, rfl⟩⟩
     refine ⟨_, rfl, ?_⟩
     refine hK.out _ _ ⟨(blk_cell BK111.out 0).trans rfl, (blk_cell BK111.out 1).trans rfl, (blk_cell BK112.out 0).trans rfl, (blk_cell BK112.out 1).trans rfl, (blk_cell BK113.out 0).trans rfl, (blk_cell BK113.out 1).trans rfl, (blk_cell BK114.out 0).trans rfl, (blk_cell BK114.out 1).trans rfl⟩ (fun hHeld => ?_)
     clear hK K
     refine norm_ (a' := ?_) ?_ ?_
     rotate_left
     ·show Act.put _ (some 48) _ = _
      exact zs
     refine one_ (i := 21) (N := some 52) (zl 27 4194303) rfl rfl (one_of HT_.out (by kernel_rfl)) (by decide) (fun K hK => ?_)
     refine goes_ Tryd.func17 (by kernel_rfl) rfl #[.agg #[.int .i64 a2_0, .int .i64 a2_1], .agg #[.int .i64 a3_0, .int .i64 a3_1], .agg #[.int .i64 a1_0, .int .i64 a1_1]] (by rfl) rfl rfl zn ?_
     with_reducible refine (spec_pgTurn.calls a2_0 a2_1 a3_0 a3_1 a1_0 a1_1 t125 _ A89.out).mono ?_
     rintro e w95 ⟨rfl, hb⟩
     refine ⟨_, rfl, ?_⟩
     have n0_ := Aside0.mk (blk_below (g := gb111) (o := .cells #[.int .i64 a0_0, .int .i64 a0_1] 33 (0, 0)) zk hb)
     have n1_ := Aside0.mk (blk_below (g := gb112) (o := .cells #[.int .i64 a1_0, .int .i64 a1_1] 33 (0, 0)) zk hb)
     have n2_ := Aside0.mk (blk_below (g := gb113) (o := .cells #[.int .i64 a2_0, .int .i64 a2_1] 33 (0, 0)) zk hb)
     have n3_ := Aside0.mk (blk_below (g := gb114) (o := .cells #[.int .i64 a3_0, .int .i64 a3_1] 33 (0, 0)) zk hb)
     have n4_ := Aside0.mk (below_step zb hb)
     clear BK111
     clear BK112
     clear BK113
     clear BK114
     clear HB
     have BK111 := n0_
     have BK112 := n1_
     have BK113 := n2_
     have BK114 := n3_
     have HB := n4_
     clear n0_ n1_ n2_ n3_ n4_
     (try clear hb)
     (try clear hb2)
     (try clear hk)
     (try clear hi)
     refine hK.out _ _ ⟨(blk_cell BK111.out 0).trans rfl, (blk_cell BK111.out 1).trans rfl, (blk_cell BK112.out 0).trans rfl, (blk_cell BK112.out 1).trans rfl, (blk_cell BK113.out 0).trans rfl, (blk_cell BK113.out 1).trans rfl, (blk_cell BK114.out 0).trans rfl, (blk_cell BK114.out 1).trans rfl⟩ (fun hHeld => ?_)
     clear hK K
     refine norm_ (a' := ?_) ?_ ?_
     rotate_left
     ·show Act.put _ (some 52) _ = _
      exact zs
     refine one_ (i := 22) (N := some 53) (zl 27 8388607) rfl rfl (one_of HT_.out (by kernel_rfl)) (by decide) (fun K hK => ?_)
     refine goes_ Tryd.func29 (by kernel_rfl) rfl #[.int .i64 t125] (by rfl) rfl rfl zn ?_
     with_reducible refine (spec_l1Sign.calls t125 t126 _ A90.out).mono ?_
     rintro e w' ⟨rfl, ⟨nd, rfl⟩⟩
     refine ⟨_, rfl, ?_⟩
     refine hK.out _ _ ⟨(blk_cell BK111.out 0).trans rfl, (blk_cell BK111.out 1).trans rfl, (blk_cell BK112.out 0).trans rfl, (blk_cell BK112.out 1).trans rfl, (blk_cell BK113.out 0).trans rfl, (blk_cell BK113.out 1).trans rfl, (blk_cell BK114.out 0).trans rfl, (blk_cell BK114.out 1).trans rfl⟩ (fun hHeld => ?_)
     clear hK K
     refine norm_ (a' := ?_) ?_ ?_
     rotate_left
     ·show Act.put _ (some 53) _ = _
      exact zs
     refine zp 23 54 27 16777215 HT_ ?_
     refine zp 24 55 27 33554431 HT_ ?_
     refine zp 25 56 27 67108863 HT_ ?_
     refine zp 26 8 27 134217727 HT_ ?_
     refine done_ (done_of HT_.out (by kernel_rfl)) ?_
     try go_wp2
     go_ret
     exact ⟨by first | rfl | (simp [errW_none, errW_some] <;> rfl) | (simp [*, errW_none, errW_some] <;> rfl), zb⟩
    ·rw [if_neg c86] at H
     have c86b0 : decide ((wrap64 (t120 * t122)) < 0) = false := decide_eq_false c86
     clear c86
     obtain rfl := Option.some.inj H
     try go_wp2
     have n0_ := Aside0.mk (blk_drew BK111.out)
     have n1_ := Aside0.mk (blk_drew BK112.out)
     have n2_ := Aside0.mk (blk_drew BK113.out)
     have n3_ := Aside0.mk (blk_drew BK114.out)
     have n4_ := Aside0.mk (below_drew1 HB.out)
     clear BK111
     clear BK112
     clear BK113
     clear BK114
     clear HB
     have BK111 := n0_
     have BK112 := n1_
     have BK113 := n2_
     have BK114 := n3_
     have HB := n4_
     clear n0_ n1_ n2_ n3_ n4_
     refine start_ (n := 27) (S := fun w' => w'.cell? ⟨gb111, 0, none⟩ = some (.int .i64 a0_0) ∧ w'.cell? ⟨gb111, 1, none⟩ = some (.int .i64 a0_1) ∧ w'.cell? ⟨gb112, 0, none⟩ = some (.int .i64 a1_0) ∧ w'.cell? ⟨gb112, 1, none⟩ = some (.int .i64 a1_1) ∧ w'.cell? ⟨gb113, 0, none⟩ = some (.int .i64 a2_0) ∧ w'.cell? ⟨gb113, 1, none⟩ = some (.int .i64 a2_1) ∧ w'.cell? ⟨gb114, 0, none⟩ = some (.int .i64 a3_0) ∧ w'.cell? ⟨gb114, 1, none⟩ = some (.int .i64 a3_1)) (ds := []) (zl 27 0) (by kernel_rfl) rfl rfl ⟨(blk_cell BK111.out 0).trans rfl, (blk_cell BK111.out 1).trans rfl, (blk_cell BK112.out 0).trans rfl, (blk_cell BK112.out 1).trans rfl, (blk_cell BK113.out 0).trans rfl, (blk_cell BK113.out 1).trans rfl, (blk_cell BK114.out 0).trans rfl, (blk_cell BK114.out 1).trans rfl⟩ (fun hHeld => ?_); refine with_tabW spec_pgMeet.tab3 spec_pgMeet.bits3 (fun HT_ HW_ => ?_)
     generalize wc.drew = w96 at BK111 BK112 BK113 BK114 HB hHeld ⊢
     refine take_ (i := 0) (N := some 31) (v := ?_) (a' := ?_) (zl 27 1) rfl rfl (take_ofW HT_.out HW_.out (by kernel_rfl)) (fun _ _ _ h => h) (Or.inl ⟨by rfl, ?_⟩) hHeld ?_ ?_
     rotate_left
     ·rintro w' ⟨s0, s1, s2, s3, s4, s5, s6, s7⟩
      go_simp
      with_reducible rfl
     rotate_left
     ·exact zs
     refine take_ (i := 1) (N := some 32) (v := ?_) (a' := ?_) (zl 27 3) rfl rfl (take_ofW HT_.out HW_.out (by kernel_rfl)) (fun _ _ _ h => h) (Or.inl ⟨by rfl, ?_⟩) hHeld ?_ ?_
     rotate_left
     ·rintro w' ⟨s0, s1, s2, s3, s4, s5, s6, s7⟩
      go_simp
      with_reducible rfl
     rotate_left
     ·exact zs
     refine take_ (i := 2) (N := some 33) (v := ?_) (a' := ?_) (zl 27 7) rfl rfl (take_ofW HT_.out HW_.out (by kernel_rfl)) (fun _ _ _ h => h) (Or.inl ⟨by rfl, ?_⟩) hHeld ?_ ?_
     rotate_left
     ·rintro w' ⟨s0, s1, s2, s3, s4, s5, s6, s7⟩
      go_simp
      with_reducible rfl
     rotate_left
     ·exact zs
     refine take_ (i := 5) (N := some 36) (v := ?_) (a' := ?_) (zl 27 39) rfl rfl (take_ofW HT_.out HW_.out (by kernel_rfl)) (fun _ _ _ h => h) (Or.inl ⟨by rfl, ?_⟩) hHeld ?_ ?_
     rotate_left
     ·rintro w' ⟨s0, s1, s2, s3, s4, s5, s6, s7⟩
      go_simp
      with_reducible rfl
     rotate_left
     ·exact zs
     refine take_ (i := 6) (N := some 37) (v := ?_) (a' := ?_) (zl 27 103) rfl rfl (take_ofW HT_.out HW_.out (by kernel_rfl)) (fun _ _ _ h => h) (Or.inl ⟨by rfl, ?_⟩) hHeld ?_ ?_
     rotate_left
     ·rintro w' ⟨s0, s1, s2, s3, s4, s5, s6, s7⟩
      go_simp
      with_reducible rfl
     rotate_left
     ·exact zs
     refine take_ (i := 7) (N := some 38) (v := ?_) (a' := ?_) (zl 27 231) rfl rfl (take_ofW HT_.out HW_.out (by kernel_rfl)) (fun _ _ _ h => h) (Or.inl ⟨by rfl, ?_⟩) hHeld ?_ ?_
     rotate_left
     ·rintro w' ⟨s0, s1, s2, s3, s4, s5, s6, s7⟩
      go_simp
      with_reducible rfl
     rotate_left
     ·exact zs
     refine one_ (i := 3) (N := some 34) (zl 27 239) rfl rfl (one_of HT_.out (by kernel_rfl)) (by decide) (fun K hK => ?_)
     refine goes_ Tryd.func17 (by kernel_rfl) rfl #[.agg #[.int .i64 a0_0, .int .i64 a0_1], .agg #[.int .i64 a1_0, .int .i64 a1_1], .agg #[.int .i64 a2_0, .int .i64 a2_1]] (by rfl) rfl rfl zn ?_
     with_reducible refine (spec_pgTurn.calls a0_0 a0_1 a1_0 a1_1 a2_0 a2_1 t119 _ A82.out).mono ?_
     rintro e w97 ⟨rfl, hb⟩
     refine ⟨_, rfl, ?_⟩
     have n0_ := Aside0.mk (blk_below (g := gb111) (o := .cells #[.int .i64 a0_0, .int .i64 a0_1] 33 (0, 0)) zk hb)
     have n1_ := Aside0.mk (blk_below (g := gb112) (o := .cells #[.int .i64 a1_0, .int .i64 a1_1] 33 (0, 0)) zk hb)
     have n2_ := Aside0.mk (blk_below (g := gb113) (o := .cells #[.int .i64 a2_0, .int .i64 a2_1] 33 (0, 0)) zk hb)
     have n3_ := Aside0.mk (blk_below (g := gb114) (o := .cells #[.int .i64 a3_0, .int .i64 a3_1] 33 (0, 0)) zk hb)
     have n4_ := Aside0.mk (below_step zb hb)
     clear BK111
     clear BK112
     clear BK113
     clear BK114
     clear HB
     have BK111 := n0_
     have BK112 := n1_
     have BK113 := n2_
     have BK114 := n3_
     have HB := n4_
     clear n0_ n1_ n2_ n3_ n4_
     (try clear hb)
     (try clear hb2)
     (try clear hk)
     (try clear hi)
     refine hK.out _ _ ⟨(blk_cell BK111.out 0).trans rfl, (blk_cell BK111.out 1).trans rfl, (blk_cell BK112.out 0).trans rfl, (blk_cell BK112.out 1).trans rfl, (blk_cell BK113.out 0).trans rfl, (blk_cell BK113.out 1).trans rfl, (blk_cell BK114.out 0).trans rfl, (blk_cell BK114.out 1).trans rfl⟩ (fun hHeld => ?_)
     clear hK K
     refine norm_ (a' := ?_) ?_ ?_
     rotate_left
     ·show Act.put _ (some 34) _ = _
      exact zs
     refine one_ (i := 4) (N := some 35) (zl 27 255) rfl rfl (one_of HT_.out (by kernel_rfl)) (by decide) (fun K hK => ?_)
     refine goes_ Tryd.func29 (by kernel_rfl) rfl #[.int .i64 t119] (by rfl) rfl rfl zn ?_
     with_reducible refine (spec_l1Sign.calls t119 t120 _ A83.out).mono ?_
     rintro e w' ⟨rfl, ⟨nd, rfl⟩⟩
     refine ⟨_, rfl, ?_⟩
     refine hK.out _ _ ⟨(blk_cell BK111.out 0).trans rfl, (blk_cell BK111.out 1).trans rfl, (blk_cell BK112.out 0).trans rfl, (blk_cell BK112.out 1).trans rfl, (blk_cell BK113.out 0).trans rfl, (blk_cell BK113.out 1).trans rfl, (blk_cell BK114.out 0).trans rfl, (blk_cell BK114.out 1).trans rfl⟩ (fun hHeld => ?_)
     clear hK K
     refine norm_ (a' := ?_) ?_ ?_
     rotate_left
     ·show Act.put _ (some 35) _ = _
      exact zs
     refine one_ (i := 8) (N := some 39) (zl 27 511) rfl rfl (one_of HT_.out (by kernel_rfl)) (by decide) (fun K hK => ?_)
     refine goes_ Tryd.func17 (by kernel_rfl) rfl #[.agg #[.int .i64 a0_0, .int .i64 a0_1], .agg #[.int .i64 a1_0, .int .i64 a1_1], .agg #[.int .i64 a3_0, .int .i64 a3_1]] (by rfl) rfl rfl zn ?_
     with_reducible refine (spec_pgTurn.calls a0_0 a0_1 a1_0 a1_1 a3_0 a3_1 t121 _ A84.out).mono ?_
     rintro e w98 ⟨rfl, hb⟩
     refine ⟨_, rfl, ?_⟩
     have n0_ := Aside0.mk (blk_below (g := gb111) (o := .cells #[.int .i64 a0_0, .int .i64 a0_1] 33 (0, 0)) zk hb)
     have n1_ := Aside0.mk (blk_below (g := gb112) (o := .cells #[.int .i64 a1_0, .int .i64 a1_1] 33 (0, 0)) zk hb)
     have n2_ := Aside0.mk (blk_below (g := gb113) (o := .cells #[.int .i64 a2_0, .int .i64 a2_1] 33 (0, 0)) zk hb)
     have n3_ := Aside0.mk (blk_below (g := gb114) (o := .cells #[.int .i64 a3_0, .int .i64 a3_1] 33 (0, 0)) zk hb)
     have n4_ := Aside0.mk (below_step zb hb)
     clear BK111
     clear BK112
     clear BK113
     clear BK114
     clear HB
     have BK111 := n0_
     have BK112 := n1_
     have BK113 := n2_
     have BK114 := n3_
     have HB := n4_
     clear n0_ n1_ n2_ n3_ n4_
     (try clear hb)
     (try clear hb2)
     (try clear hk)
     (try clear hi)
     refine hK.out _ _ ⟨(blk_cell BK111.out 0).trans rfl, (blk_cell BK111.out 1).trans rfl, (blk_cell BK112.out 0).trans rfl, (blk_cell BK112.out 1).trans rfl, (blk_cell BK113.out 0).trans rfl, (blk_cell BK113.out 1).trans rfl, (blk_cell BK114.out 0).trans rfl, (blk_cell BK114.out 1).trans rfl⟩ (fun hHeld => ?_)
     clear hK K
     refine norm_ (a' := ?_) ?_ ?_
     rotate_left
     ·show Act.put _ (some 39) _ = _
      exact zs
     refine one_ (i := 9) (N := some 40) (zl 27 1023) rfl rfl (one_of HT_.out (by kernel_rfl)) (by decide) (fun K hK => ?_)
     refine goes_ Tryd.func29 (by kernel_rfl) rfl #[.int .i64 t121] (by rfl) rfl rfl zn ?_
     with_reducible refine (spec_l1Sign.calls t121 t122 _ A85.out).mono ?_
     rintro e w' ⟨rfl, ⟨nd, rfl⟩⟩
     refine ⟨_, rfl, ?_⟩
     refine hK.out _ _ ⟨(blk_cell BK111.out 0).trans rfl, (blk_cell BK111.out 1).trans rfl, (blk_cell BK112.out 0).trans rfl, (blk_cell BK112.out 1).trans rfl, (blk_cell BK113.out 0).trans rfl, (blk_cell BK113.out 1).trans rfl, (blk_cell BK114.out 0).trans rfl, (blk_cell BK114.out 1).trans rfl⟩ (fun hHeld => ?_)
     clear hK K
     refine norm_ (a' := ?_) ?_ ?_
     rotate_left
     ·show Act.put _ (some 40) _ = _
      exact zs
     refine zp 10 41 27 2047 HT_ ?_
     refine zp 11 42 27 4095 HT_ ?_
     refine zp 12 43 27 8191 HT_ ?_
     refine pure_ (i := 13) (N := some 44) (v := undef) (a' := ?_) (zl 27 16383) rfl rfl (any_of HT_.out (by kernel_rfl)) (fun _ _ _ h => h) (Or.inr ⟨by rfl, rfl⟩) ?_ ?_
     rotate_left
     ·exact zs
     refine pure_ (i := 14) (N := some 45) (v := undef) (a' := ?_) (zl 27 32767) rfl rfl (any_of HT_.out (by kernel_rfl)) (fun _ _ _ h => h) (Or.inr ⟨by rfl, rfl⟩) ?_ ?_
     rotate_left
     ·exact zs
     refine pure_ (i := 15) (N := some 46) (v := undef) (a' := ?_) (zl 27 65535) rfl rfl (any_of HT_.out (by kernel_rfl)) (fun _ _ _ h => h) (Or.inr ⟨by rfl, rfl⟩) ?_ ?_
     rotate_left
     ·exact zs
     refine pure_ (i := 16) (N := some 47) (v := undef) (a' := ?_) (zl 27 131071) rfl rfl (any_of HT_.out (by kernel_rfl)) (fun _ _ _ h => h) (Or.inr ⟨by rfl, rfl⟩) ?_ ?_
     rotate_left
     ·exact zs
     refine pure_ (i := 17) (N := some 48) (v := undef) (a' := ?_) (zl 27 262143) rfl rfl (any_of HT_.out (by kernel_rfl)) (fun _ _ _ h => h) (Or.inr ⟨by rfl, rfl⟩) ?_ ?_
     rotate_left
     ·exact zs
     refine pure_ (i := 18) (N := some 49) (v := undef) (a' := ?_) (zl 27 524287) rfl rfl (any_of HT_.out (by kernel_rfl)) (fun _ _ _ h => h) (Or.inr ⟨by rfl, rfl⟩) ?_ ?_
     rotate_left
     ·exact zs
     refine pure_ (i := 19) (N := some 50) (v := undef) (a' := ?_) (zl 27 1048575) rfl rfl (any_of HT_.out (by kernel_rfl)) (fun _ _ _ h => h) (Or.inr ⟨by rfl, rfl⟩) ?_ ?_
     rotate_left
     ·exact zs
     refine pure_ (i := 20) (N := some 51) (v := undef) (a' := ?_) (zl 27 2097151) rfl rfl (any_of HT_.out (by kernel_rfl)) (fun _ _ _ h => h) (Or.inr ⟨by rfl, rfl⟩) ?_ ?_
     rotate_left
     ·exact zs
     refine pure_ (i := 21) (N := some 52) (v := undef) (a' := ?_) (zl 27 4194303) rfl rfl (any_of HT_.out (by kernel_rfl)) (fun _ _ _ h => h) (Or.inr ⟨by rfl, rfl⟩) ?_ ?_
     rotate_left
     ·exact zs
     refine pure_ (i := 22) (N := some 53) (v := undef) (a' := ?_) (zl 27 8388607) rfl rfl (any_of HT_.out (by kernel_rfl)) (fun _ _ _ h => h) (Or.inr ⟨by rfl, rfl⟩) ?_ ?_
     rotate_left
     ·exact zs
     refine pure_ (i := 23) (N := some 54) (v := undef) (a' := ?_) (zl 27 16777215) rfl rfl (any_of HT_.out (by kernel_rfl)) (fun _ _ _ h => h) (Or.inr ⟨by rfl, rfl⟩) ?_ ?_
     rotate_left
     ·exact zs
     refine pure_ (i := 24) (N := some 55) (v := undef) (a' := ?_) (zl 27 33554431) rfl rfl (any_of HT_.out (by kernel_rfl)) (fun _ _ _ h => h) (Or.inr ⟨by rfl, rfl⟩) ?_ ?_
     rotate_left
     ·exact zs
     refine zp 25 56 27 67108863 HT_ ?_
     refine zp 26 8 27 134217727 HT_ ?_
     refine done_ (done_of HT_.out (by kernel_rfl)) ?_
     try go_wp2
     go_ret
     exact ⟨by first | rfl | (simp [errW_none, errW_some] <;> rfl) | (simp [*, errW_none, errW_some] <;> rfl), zb⟩
end Go.Proofs.YtphpdfcblchpnaaDoor.Q
namespace Go.Proofs.YtphpdfcblchpnaaDoor.Q
open Go.RowKit Go.Proofs.YtphpdfcblchpnaaDoorW.PrintWords Go.Proofs.YtphpdfcblchpnaaDoorW.PrintLast Go.Proofs.YtphpdfcblchpnaaDoorW.PrintMore
attribute [local go_sem] max2_int min2_int max_two min_two max_three min_three max_four min_four   -- for this text's walks alone
set_option linter.unusedVariables false
set_option linter.unusedSimpArgs false
attribute [local go_sem high] eqA33
mutual
def spec_pgGood.l0 : Nat → List (S33) → Int → List (S33) → Int → Int → Option (Bool)
 | 0, _, _, _, _, _ => none
 | k + 1, x0, x3, x17, x18, x19 => if x19 < x18 then (if 0 ≤ x19 then (if x19 < (x17.length : Int) then ((spec_pgIs.f ((rd_T33 x17 x19).f0) ((rd_T33 x17 x19).f1)).bind fun t130 => (if t130 = true then (if x19 ≤ (x0.length : Int) then ((some (x0.take (x19 : Int).toNat : List (S33))).bind fun y131 => (spec_pgGood.l1 k x0 x3 x17 x18 x19 y131 (y131.length : Int) 0 ((rd_T33 x17 x19).f0) ((rd_T33 x17 x19).f1))) else (none)) else (some false))) else (none)) else (none)) else (spec_pgGood.l2 k x0 x3 x0 (x0.length : Int) 0)
def spec_pgGood.l1 : Nat → List (S33) → Int → List (S33) → Int → Int → List (S33) → Int → Int → Int → Int → Option (Bool)
 | 0, _, _, _, _, _, _, _, _, _, _ => none
 | k + 1, x0, x3, x17, x18, x19, x29, x30, x31, x130000, x130001 => if x31 < x30 then (if 0 ≤ x31 then (if x31 < (x29.length : Int) then (if (x130000 == ((rd_T33 x29 x31).f0) && (x130001 == ((rd_T33 x29 x31).f1))) = true then (some false) else (spec_pgGood.l1 k x0 x3 x17 x18 x19 x29 x30 (wrap64 (x31 + 1)) x130000 x130001)) else (none)) else (none)) else (spec_pgGood.l0 k x0 x3 x17 x18 (wrap64 (x19 + 1)))
def spec_pgGood.l2 : Nat → List (S33) → Int → List (S33) → Int → Int → Option (Bool)
 | 0, _, _, _, _, _ => none
 | k + 1, x0, x3, x40, x41, x42 => if x42 < x41 then (if 0 ≤ x42 then (if x42 < (x40.length : Int) then (if x3 = 0 then (none) else (if 0 ≤ (Int.tmod (wrap64 (x42 + 1)) x3) then (if (Int.tmod (wrap64 (x42 + 1)) x3) < (x0.length : Int) then (if 0 ≤ (Int.tmod (wrap64 (x42 + 2)) x3) then (if (Int.tmod (wrap64 (x42 + 2)) x3) < (x0.length : Int) then ((spec_pgTurn.f ((rd_T33 x40 x42).f0) ((rd_T33 x40 x42).f1) ((rd_T33 x0 (Int.tmod (wrap64 (x42 + 1)) x3)).f0) ((rd_T33 x0 (Int.tmod (wrap64 (x42 + 1)) x3)).f1) ((rd_T33 x0 (Int.tmod (wrap64 (x42 + 2)) x3)).f0) ((rd_T33 x0 (Int.tmod (wrap64 (x42 + 2)) x3)).f1)).bind fun t142 => (if t142 = 0 then (some false) else (spec_pgGood.l3 k x0 x3 x42 (wrap64 (x42 + 2)) x40 x41 x42 ((rd_T33 x40 x42).f0) ((rd_T33 x40 x42).f1) ((rd_T33 x0 (Int.tmod (wrap64 (x42 + 1)) x3)).f0) ((rd_T33 x0 (Int.tmod (wrap64 (x42 + 1)) x3)).f1)))) else (none)) else (none)) else (none)) else (none))) else (none)) else (none)) else (some true)
def spec_pgGood.l3 : Nat → List (S33) → Int → Int → Int → List (S33) → Int → Int → Int → Int → Int → Int → Option (Bool)
 | 0, _, _, _, _, _, _, _, _, _, _, _ => none
 | k + 1, x0, x3, x8, x11, x40, x41, x42, x139000, x139001, x141000, x141001 => if x11 < x3 then (spec_pgGood.j4 k x0 x3 x8 x11 x40 x41 x42 (decide ((wrap64 (x11 - x8)) < (wrap64 (x3 - 1)))) x139000 x139001 x141000 x141001) else (spec_pgGood.j4 k x0 x3 x8 x11 x40 x41 x42 false x139000 x139001 x141000 x141001)
def spec_pgGood.j4 : Nat → List (S33) → Int → Int → Int → List (S33) → Int → Int → Bool → Int → Int → Int → Int → Option (Bool)
 | 0, _, _, _, _, _, _, _, _, _, _, _, _ => none
 | k + 1, x0, x3, x8, x11, x40, x41, x42, x77, x139000, x139001, x141000, x141001 => if x77 = true then (if 0 ≤ x11 then (if x11 < (x0.length : Int) then (if x3 = 0 then (none) else (if 0 ≤ (Int.tmod (wrap64 (x11 + 1)) x3) then (if (Int.tmod (wrap64 (x11 + 1)) x3) < (x0.length : Int) then ((spec_pgMeet.f k x139000 x139001 x141000 x141001 ((rd_T33 x0 x11).f0) ((rd_T33 x0 x11).f1) ((rd_T33 x0 (Int.tmod (wrap64 (x11 + 1)) x3)).f0) ((rd_T33 x0 (Int.tmod (wrap64 (x11 + 1)) x3)).f1)).bind fun t145 => (if t145 = true then (some false) else (spec_pgGood.l3 k x0 x3 x8 (wrap64 (x11 + 1)) x40 x41 x42 x139000 x139001 x141000 x141001))) else (none)) else (none))) else (none)) else (none)) else (spec_pgGood.l2 k x0 x3 x40 x41 (wrap64 (x42 + 1)))
end
def spec_pgGood.f (k : Nat) (l0 : List (S33)) : Option (Bool) := (spec_l1In.f (l0.length : Int) 3 10).bind fun t127 => (if t127 = true then (spec_pgGood.l0 k l0 (l0.length : Int) l0 (l0.length : Int) 0) else (some false))
def spec_pgGood.T20 : Bool × List (List Nat × List Nat) := (true, [([], []), ([], []), ([], []), ([], []), ([3], [3]), ([], []), ([4, 5], [4, 5]), ([2, 6], [2, 6]), ([7], [7]), ([0, 1, 8], [0, 1, 8]), ([9], [9])])
def spec_pgGood.B20 : List Nat := [0, 0, 0, 0, 8, 0, 56, 124, 252, 511, 1023]
theorem spec_pgGood.tab20 : rtab .any (opsOf Tryd.f9 20) = spec_pgGood.T20 := by kernel_rfl
theorem spec_pgGood.bits20 : waitsOk spec_pgGood.T20.2 spec_pgGood.B20 = true := by kernel_rfl
def spec_pgGood.T25 : Bool × List (List Nat × List Nat) := (true, [([], []), ([], []), ([], []), ([], []), ([2, 3], [2, 3]), ([4], [4]), ([], []), ([], []), ([7], [7]), ([], []), ([8, 9], [8, 9]), ([6, 10], [6, 10]), ([11], [11]), ([0, 1, 5, 12], [0, 1, 5, 12])])
def spec_pgGood.B25 : List Nat := [0, 0, 0, 0, 12, 28, 0, 0, 128, 0, 896, 1984, 4032, 8191]
theorem spec_pgGood.tab25 : rtab .any (opsOf Tryd.f9 25) = spec_pgGood.T25 := by kernel_rfl
theorem spec_pgGood.bits25 : waitsOk spec_pgGood.T25.2 spec_pgGood.B25 = true := by kernel_rfl
set_option maxHeartbeats 8000000 in
set_option maxRecDepth 100000 in
theorem spec_pgGood.calls (k : Nat) (A0 : Option Addr) (c0 : Nat) (l0 : List (S33)) (r : Bool) (w : World) (hr0 : Kd.C k33 w A0 l0.length l0) (hc0 : l0.length ≤ c0) (h : spec_pgGood.f k l0 = some r) :
  Calls Tryd.prog 9 #[.slice A0 l0.length c0] w fun e w' => e = .returned (.bool r) ∧ Below w.heap.size w w' := by
 have hu33 := Tryd.underlying33
 have HR0 := Aside0.mk hr0
 have HC0 := Aside0.mk hc0
 clear hr0 hc0
 have HB := Aside0.mk (Below.refl w.heap.size w)
 have H : ((spec_l1In.f (l0.length : Int) 3 10).bind fun t127 => (if t127 = true then (spec_pgGood.l0 k l0 (l0.length : Int) l0 (l0.length : Int) 0) else (some false))) = some r := h
 clear h
 replace H := Option.bind_eq_some_iff.mp H
 obtain ⟨t127, A20, H⟩ := H
 replace H : (if t127 = true then (spec_pgGood.l0 k l0 (l0.length : Int) l0 (l0.length : Int) 0) else (some false)) = some r := H
 have A2 := Aside0.mk A20
 clear A20
 by_cases c3 : t127 = true
 ·subst c3
  have H1 : (spec_pgGood.l0 k l0 (l0.length : Int) l0 (l0.length : Int) 0) = some r := by rw [if_pos rfl] at H; exact H
  clear H
  have H := H1
  clear H1
  have H' := Aside0.mk H
  clear H
  go_enter Tryd.func9, Tryd.ntmps9
  go_wp2_with (first | ((with_reducible refine gate_callee (f := 15) rfl ?_); refine goesL_ (some 15) rfl rfl Tryd.func15 (by kernel_rfl) rfl #[.int .i64 (l0.length : Int), .int .i64 3, .int .i64 10] rfl zn ?_; (with_reducible refine (spec_l1In.calls (l0.length : Int) 3 10 true _ A2.out).mono ?_); rintro e w' ⟨rfl, ⟨nd, rfl⟩⟩; refine ⟨_, rfl, ?_⟩))
  go_loopg [19] k (fun kq v19 w' => ∃ (x19_1 : Int), v19 = .int .i64 x19_1 ∧ Aside0 (spec_pgGood.l0 kq l0 (l0.length : Int) l0 (l0.length : Int) x19_1 = some r) ∧ Aside0 (kq ≤ k) ∧ Aside0 (Below w.heap.size w w'))
  case atStart => exact ⟨(0), (by first | rfl | (simp; done) | (simp [*]; done)), H', ⟨Nat.le_refl _⟩, ⟨zb⟩⟩
  case round =>
   clear H'
   try clear c1
   try clear p2
   try clear c3
   obtain ⟨x19_1, rfl, HA, HK1, HB⟩ := hrel
   cases gk with
   | zero => exact absurd HA.out (by simp [spec_pgGood.l0])
   | succ k1 =>
    have H := HA.out
    clear HA
    simp only [spec_pgGood.l0] at H
    by_cases c4 : x19_1 < (l0.length : Int)
    ·rw [if_pos c4] at H
     have c4b0 : decide (x19_1 < (l0.length : Int)) = true := decide_eq_true c4
     clear c4
     by_cases c5 : 0 ≤ x19_1
     ·rw [if_pos c5] at H
      have c5b0 : decide (0 ≤ x19_1) = true := decide_eq_true c5
      clear c5
      by_cases c6 : x19_1 < (l0.length : Int)
      ·rw [if_pos c6] at H
       have c6b0 : decide (x19_1 < (l0.length : Int)) = true := decide_eq_true c6
       clear c6
       replace H := Option.bind_eq_some_iff.mp H
       obtain ⟨t130, A70, H⟩ := H
       replace H : (if t130 = true then (if x19_1 ≤ (l0.length : Int) then ((some (l0.take (x19_1 : Int).toNat : List (S33))).bind fun y131 => (spec_pgGood.l1 k1 l0 (l0.length : Int) l0 (l0.length : Int) x19_1 y131 (y131.length : Int) 0 ((rd_T33 l0 x19_1).f0) ((rd_T33 l0 x19_1).f1))) else (none)) else (some false)) = some r := H
       have A7 := Aside0.mk A70
       clear A70
       by_cases c8 : t130 = true
       ·subst c8
        have H1 : (if x19_1 ≤ (l0.length : Int) then ((some (l0.take (x19_1 : Int).toNat : List (S33))).bind fun y131 => (spec_pgGood.l1 k1 l0 (l0.length : Int) l0 (l0.length : Int) x19_1 y131 (y131.length : Int) 0 ((rd_T33 l0 x19_1).f0) ((rd_T33 l0 x19_1).f1))) else (none)) = some r := by rw [if_pos rfl] at H; exact H
        clear H
        have H := H1
        clear H1
        have c9b0 := eq_true (of_decide_eq_true (by first | (with_reducible assumption) | assumption) : 0 ≤ x19_1)
        by_cases c10 : x19_1 ≤ (l0.length : Int)
        ·rw [if_pos c10] at H
         have c10b0 := eq_true c10
         have c10b1 : decide (x19_1 ≤ (l0.length : Int)) = true := decide_eq_true c10
         clear c10
         obtain ⟨y131, hy131⟩ : ∃ y_ : List (S33), y_ = (l0.take (x19_1 : Int).toNat) := ⟨_, rfl⟩
         replace H : (spec_pgGood.l1 k1 l0 (l0.length : Int) l0 (l0.length : Int) x19_1 y131 (y131.length : Int) 0 ((rd_T33 l0 x19_1).f0) ((rd_T33 l0 x19_1).f1)) = some r := by first | (rw [hy131]; with_reducible exact H) | (have H2_ := (Option.bind_some _ _).symm.trans H; rw [hy131]; with_reducible exact H2_) | (have H2_ := (Option.bind_some _ _).symm.trans H; with_reducible exact H2_) | with_reducible exact H | (rw [hy131]; exact H) | exact H
         have Ny131 := Aside0.mk hy131
         clear hy131
         have H' := Aside0.mk H
         clear H
         have p128 : 0 ≤ (x19_1 : Int) := of_decide_eq_true (by first | (with_reducible assumption) | assumption)
         have q128 : x19_1 < (l0.length : Int) := of_decide_eq_true (by first | (with_reducible assumption) | assumption)
         obtain ⟨ad128, e128, hx128_0, hx128_1⟩ := at_T33 HR0.out x19_1 p128 q128
         cases e128
         replace hx128_0 := zc HB hx128_0
         replace hx128_1 := zc HB hx128_1
         replace p128 := eq_true p128
         replace q128 := eq_true q128
         go_wp2_with (first | ((with_reducible refine gate_dst (N := 5) rfl ?_); refine box_event ?hg (N := 5) ?hd (cs := #[.int .i64 0, .int .i64 0]) (t := 33) ?hr ?_; (case hd => rfl); (case hg => rfl); (case hr => first | (go_simp; done) | (go_simp; rfl)); intro gb129 hg w11 hbox hb; have n0_ := Aside0.mk (below_step zb hb); have n1_ := Aside0.mk (hbox); have n2_ := Aside0.mk ((by rw [hg]; exact (below_size zb) : w.heap.size ≤ gb129)); have n3_ := Aside0.mk ((by rw [hg]; exact (below_size zb) : w.heap.size ≤ gb129)); clear HB; have HB := n0_; have BK129 := n1_; have GW129 := n2_; have GE129 := n3_; clear n0_ n1_ n2_ n3_; clear hb hbox hg; have hcz12_0 : w11.cell? ⟨gb129, 0, none⟩ = some (.int .i64 0) := (blk_cell BK129.out 0).trans rfl; have hcz12_1 : w11.cell? ⟨gb129, 1, none⟩ = some (.int .i64 0) := (blk_cell BK129.out 1).trans rfl; have hfz12_0 := blk_frozen BK129.out 0; have hfz12_1 := blk_frozen BK129.out 1) | ((with_reducible refine gate_callee (f := 16) rfl ?_); refine goesL_ (some 25) rfl rfl Tryd.func16 (by kernel_rfl) rfl #[.agg #[.int .i64 ((rd_T33 l0 x19_1).f0), .int .i64 ((rd_T33 l0 x19_1).f1)]] rfl zn ?_; (with_reducible refine (spec_pgIs.calls ((rd_T33 l0 x19_1).f0) ((rd_T33 l0 x19_1).f1) true _ A7.out).mono ?_); rintro e w13 ⟨rfl, hb⟩; refine ⟨_, rfl, ?_⟩; have n0_ := Aside0.mk (blk_below (g := gb129) (o := .cells #[.int .i64 ((rd_T33 l0 x19_1).f0), .int .i64 ((rd_T33 l0 x19_1).f1)] 33 (0, 0)) (by (with_reducible repeat (first | refine blk_drewN ?_ _ | refine blk_drew ?_ | refine blk_alloc ?_ _)); refine blk_put (cs := #[.int .i64 ((rd_T33 l0 x19_1).f0), .int .i64 0]) ?_ 1 _ rfl; (with_reducible repeat (first | refine blk_drewN ?_ _ | refine blk_drew ?_ | refine blk_alloc ?_ _)); refine blk_put (cs := #[.int .i64 0, .int .i64 0]) ?_ 0 _ rfl; (with_reducible repeat (first | refine blk_drewN ?_ _ | refine blk_drew ?_ | refine blk_alloc ?_ _)); exact BK129.out) hb); have n1_ := Aside0.mk (below_step zb hb); clear BK129; clear HB; have BK129 := n0_; have HB := n1_; clear n0_ n1_; (try clear hb); (try clear hb2); (try clear hk); (try clear hi); have q14 : (x19_1 : Int) ≤ ((l0.length : Int) : Int) := of_decide_eq_true (by first | (with_reducible assumption) | assumption); obtain ⟨i014, hi014, _, hsz14, _⟩ := info_parts info33; have hroom14 : l0.length ≤ c0 := HC0.out; have hC14 : Kd.C k33 _ (some ad128) l0.length l0 := HR0.out; have hcut14 := cut_to (P := Tryd.prog) 26 33 .i64 Tryd.underlying26 hi014 (some ad128) l0.length c0 x19_1 (of_decide_eq_true (by first | (with_reducible assumption) | assumption)) q14 hroom14; have hr14 := Kd.C_take (m := (x19_1 : Int).toNat) hC14 (by omega); have hy14 : y131.length = (x19_1 : Int).toNat := (by rw [Ny131.out, List.length_take]; omega); rw [← Ny131.out] at hr14; rw [← hy14] at hcut14; have HR134 := Aside0.mk hr14; have HC134 := Aside0.mk (show y131.length ≤ c0 from by omega); clear hr14 hC14 hroom14 hi014 hsz14; have KY14 := Aside0.mk hy14; clear hy14; replace q14 := eq_true q14))
         go_loopg [31] k1 (fun kq v31 w' => ∃ (x31_2 : Int), v31 = .int .i64 x31_2 ∧ Aside0 (spec_pgGood.l1 kq l0 (l0.length : Int) l0 (l0.length : Int) x19_1 y131 (y131.length : Int) x31_2 ((rd_T33 l0 x19_1).f0) ((rd_T33 l0 x19_1).f1) = some r) ∧ Aside0 (kq ≤ k1) ∧ Aside0 (w'.heap[gb129]? = some (.cells #[.int .i64 ((rd_T33 l0 x19_1).f0), .int .i64 ((rd_T33 l0 x19_1).f1)] 33 (0, 0))) ∧ Aside0 (Below w.heap.size w w'))
         case atStart => exact ⟨(0), (by first | rfl | (simp; done) | (simp [*]; done)), H', ⟨Nat.le_refl _⟩, ⟨zk⟩, ⟨zb⟩⟩
         case round =>
          clear H'
          try clear c1
          try clear p1
          try clear q1
          try clear hx1
          try clear p2
          try clear c3
          try clear c4
          try clear c4b0
          try clear c5
          try clear c5b0
          try clear c6
          try clear c6b0
          try clear c8
          try clear c9
          try clear c9b0
          try clear c10
          try clear c10b0
          try clear c10b1
          try clear p12
          try clear q12
          try clear hx12
          try clear q14
          try clear hcz12_0
          try clear hcz12_1
          try clear hfz12_0
          try clear hfz12_1
          try clear hx128_0
          try clear hx128_1
          try clear p128
          try clear p2
          try clear q128
          try clear q14
          obtain ⟨x31_2, rfl, HA, HK2, BK129, HB⟩ := hrel
          cases gk with
          | zero => exact absurd HA.out (by simp [spec_pgGood.l1])
          | succ k2 =>
           have H := HA.out
           clear HA
           simp only [spec_pgGood.l1] at H
           by_cases c15 : x31_2 < (y131.length : Int)
           ·rw [if_pos c15] at H
            have c15b0 : decide (x31_2 < (y131.length : Int)) = true := decide_eq_true c15
            clear c15
            by_cases c16 : 0 ≤ x31_2
            ·rw [if_pos c16] at H
             have c16b0 : decide (0 ≤ x31_2) = true := decide_eq_true c16
             clear c16
             by_cases c17 : x31_2 < (y131.length : Int)
             ·rw [if_pos c17] at H
              have c17b0 : decide (x31_2 < (y131.length : Int)) = true := decide_eq_true c17
              clear c17
              by_cases c18 : (((rd_T33 l0 x19_1).f0) == ((rd_T33 y131 x31_2).f0) && (((rd_T33 l0 x19_1).f1) == ((rd_T33 y131 x31_2).f1))) = true
              ·rw [if_pos c18] at H
               have c18b0 : (((rd_T33 l0 x19_1).f0) == ((rd_T33 y131 x31_2).f0) && (((rd_T33 l0 x19_1).f1) == ((rd_T33 y131 x31_2).f1))) = true := c18
               (try (have c18b1 : decide (((rd_T33 l0 x19_1).f0) = ((rd_T33 y131 x31_2).f0) && (((rd_T33 l0 x19_1).f1) == ((rd_T33 y131 x31_2).f1))) = true := by simpa using c18))
               (try (have c18b2 : (((rd_T33 l0 x19_1).f0) == ((rd_T33 y131 x31_2).f0) && (((rd_T33 l0 x19_1).f1) == ((rd_T33 y131 x31_2).f1))) = true := by simpa using c18))
               clear c18
               obtain rfl := Option.some.inj H
               have p135 : 0 ≤ (x31_2 : Int) := of_decide_eq_true (by first | (with_reducible assumption) | assumption)
               have q135 : x31_2 < (y131.length : Int) := of_decide_eq_true (by first | (with_reducible assumption) | assumption)
               obtain ⟨ad135, e135, hx135_0, hx135_1⟩ := at_T33 HR134.out x31_2 p135 q135
               obtain rfl : ad128 = ad135 := (by injection e135)
               replace hx135_0 := zc HB hx135_0
               replace hx135_1 := zc HB hx135_1
               replace p135 := eq_true p135
               replace q135 := eq_true q135
               go_wp2_with (first | ((with_reducible refine gate_dst (N := 7) rfl ?_); refine box_event ?hg (N := 7) ?hd (cs := #[.int .i64 0, .int .i64 0]) (t := 33) ?hr ?_; (case hd => rfl); (case hg => rfl); (case hr => first | (go_simp; done) | (go_simp; rfl)); intro gb136 hg w19 hbox hb; have n0_ := Aside0.mk (blk_below (g := gb129) (o := .cells #[.int .i64 ((rd_T33 l0 x19_1).f0), .int .i64 ((rd_T33 l0 x19_1).f1)] 33 (0, 0)) zk hb); have n1_ := Aside0.mk (below_step zb hb); have n2_ := Aside0.mk (hbox); have n3_ := Aside0.mk ((by rw [hg]; exact (below_size zb) : w.heap.size ≤ gb136)); have n4_ := Aside0.mk ((by rw [hg]; exact (below_size zb) : w.heap.size ≤ gb136)); have n5_ := Aside0.mk ((by rw [hg]; exact Nat.ne_of_lt (blk_lt (g := gb129) (o := .cells #[.int .i64 ((rd_T33 l0 x19_1).f0), .int .i64 ((rd_T33 l0 x19_1).f1)] 33 (0, 0)) zk) : gb129 ≠ gb136)); have n6_ := Aside0.mk ((by rw [hg]; exact Nat.ne_of_gt (blk_lt (g := gb129) (o := .cells #[.int .i64 ((rd_T33 l0 x19_1).f0), .int .i64 ((rd_T33 l0 x19_1).f1)] 33 (0, 0)) zk) : gb136 ≠ gb129)); clear BK129; clear HB; have BK129 := n0_; have HB := n1_; have BK136 := n2_; have GW136 := n3_; have GE136 := n4_; have NB129_136 := n5_; have NB136_129 := n6_; clear n0_ n1_ n2_ n3_ n4_ n5_ n6_; clear hb hbox hg; have hnb20 := NB136_129.out; have hnc20 := NB129_136.out; have hcz21_0 : w19.cell? ⟨gb136, 0, none⟩ = some (.int .i64 0) := (blk_cell BK136.out 0).trans rfl; have hcz21_1 : w19.cell? ⟨gb136, 1, none⟩ = some (.int .i64 0) := (blk_cell BK136.out 1).trans rfl; have hfz21_0 := blk_frozen BK136.out 0; have hfz21_1 := blk_frozen BK136.out 1; have hcz22_0 : w19.cell? ⟨gb129, 0, none⟩ = some (.int .i64 ((rd_T33 l0 x19_1).f0)) := (blk_cell BK129.out 0).trans rfl; have hcz22_1 : w19.cell? ⟨gb129, 1, none⟩ = some (.int .i64 ((rd_T33 l0 x19_1).f1)) := (blk_cell BK129.out 1).trans rfl; have hfz22_0 := blk_frozen BK129.out 0; have hfz22_1 := blk_frozen BK129.out 1))
               go_ret
               exact ⟨by first | rfl | (simp [errW_none, errW_some] <;> rfl) | (simp [*, errW_none, errW_some] <;> rfl), zb⟩
              ·rw [if_neg c18] at H
               have c18b0 : (((rd_T33 l0 x19_1).f0) == ((rd_T33 y131 x31_2).f0) && (((rd_T33 l0 x19_1).f1) == ((rd_T33 y131 x31_2).f1))) = false := by simpa using c18
               (try (have c18b1 : decide (((rd_T33 l0 x19_1).f0) = ((rd_T33 y131 x31_2).f0) && (((rd_T33 l0 x19_1).f1) == ((rd_T33 y131 x31_2).f1))) = false := by simpa using c18))
               (try (have c18b2 : (((rd_T33 l0 x19_1).f0) == ((rd_T33 y131 x31_2).f0) && (((rd_T33 l0 x19_1).f1) == ((rd_T33 y131 x31_2).f1))) = false := by simpa using c18))
               (try (have c18b3 : ¬ (((rd_T33 l0 x19_1).f0) = ((rd_T33 y131 x31_2).f0) && (((rd_T33 l0 x19_1).f1) == ((rd_T33 y131 x31_2).f1))) := by simpa using c18))
               clear c18
               have H' := Aside0.mk H
               clear H
               have p135 : 0 ≤ (x31_2 : Int) := of_decide_eq_true (by first | (with_reducible assumption) | assumption)
               have q135 : x31_2 < (y131.length : Int) := of_decide_eq_true (by first | (with_reducible assumption) | assumption)
               obtain ⟨ad135, e135, hx135_0, hx135_1⟩ := at_T33 HR134.out x31_2 p135 q135
               obtain rfl : ad128 = ad135 := (by injection e135)
               replace hx135_0 := zc HB hx135_0
               replace hx135_1 := zc HB hx135_1
               replace p135 := eq_true p135
               replace q135 := eq_true q135
               go_wp2_with (first | ((with_reducible refine gate_dst (N := 7) rfl ?_); refine box_event ?hg (N := 7) ?hd (cs := #[.int .i64 0, .int .i64 0]) (t := 33) ?hr ?_; (case hd => rfl); (case hg => rfl); (case hr => first | (go_simp; done) | (go_simp; rfl)); intro gb136 hg w23 hbox hb; have n0_ := Aside0.mk (blk_below (g := gb129) (o := .cells #[.int .i64 ((rd_T33 l0 x19_1).f0), .int .i64 ((rd_T33 l0 x19_1).f1)] 33 (0, 0)) zk hb); have n1_ := Aside0.mk (below_step zb hb); have n2_ := Aside0.mk (hbox); have n3_ := Aside0.mk ((by rw [hg]; exact (below_size zb) : w.heap.size ≤ gb136)); have n4_ := Aside0.mk ((by rw [hg]; exact (below_size zb) : w.heap.size ≤ gb136)); have n5_ := Aside0.mk ((by rw [hg]; exact Nat.ne_of_lt (blk_lt (g := gb129) (o := .cells #[.int .i64 ((rd_T33 l0 x19_1).f0), .int .i64 ((rd_T33 l0 x19_1).f1)] 33 (0, 0)) zk) : gb129 ≠ gb136)); have n6_ := Aside0.mk ((by rw [hg]; exact Nat.ne_of_gt (blk_lt (g := gb129) (o := .cells #[.int .i64 ((rd_T33 l0 x19_1).f0), .int .i64 ((rd_T33 l0 x19_1).f1)] 33 (0, 0)) zk) : gb136 ≠ gb129)); clear BK129; clear HB; have BK129 := n0_; have HB := n1_; have BK136 := n2_; have GW136 := n3_; have GE136 := n4_; have NB129_136 := n5_; have NB136_129 := n6_; clear n0_ n1_ n2_ n3_ n4_ n5_ n6_; clear hb hbox hg; have hnb24 := NB136_129.out; have hnc24 := NB129_136.out; have hcz25_0 : w23.cell? ⟨gb136, 0, none⟩ = some (.int .i64 0) := (blk_cell BK136.out 0).trans rfl; have hcz25_1 : w23.cell? ⟨gb136, 1, none⟩ = some (.int .i64 0) := (blk_cell BK136.out 1).trans rfl; have hfz25_0 := blk_frozen BK136.out 0; have hfz25_1 := blk_frozen BK136.out 1; have hcz26_0 : w23.cell? ⟨gb129, 0, none⟩ = some (.int .i64 ((rd_T33 l0 x19_1).f0)) := (blk_cell BK129.out 0).trans rfl; have hcz26_1 : w23.cell? ⟨gb129, 1, none⟩ = some (.int .i64 ((rd_T33 l0 x19_1).f1)) := (blk_cell BK129.out 1).trans rfl; have hfz26_0 := blk_frozen BK129.out 0; have hfz26_1 := blk_frozen BK129.out 1))
               go_roundg k2
               case measure => have := HK1.out; have := HK2.out; omega
               case rel => exact ⟨(wrap64 (x31_2 + 1)), (by first | rfl | (simp; done) | (simp [*]; done)), H', ⟨by have := HK1.out; have := HK2.out; omega⟩, ⟨by (with_reducible repeat (first | refine blk_drewN ?_ _ | refine blk_drew ?_ | refine blk_alloc ?_ _)); refine blk_far ?_ NB129_136.out _; (with_reducible repeat (first | refine blk_drewN ?_ _ | refine blk_drew ?_ | refine blk_alloc ?_ _)); refine blk_far ?_ NB129_136.out _; (with_reducible repeat (first | refine blk_drewN ?_ _ | refine blk_drew ?_ | refine blk_alloc ?_ _)); exact BK129.out⟩, ⟨zb⟩⟩
             ·rw [if_neg c17] at H
              exact absurd H (by simp)
            ·rw [if_neg c16] at H
             exact absurd H (by simp)
           ·rw [if_neg c15] at H
            have c15b0 : decide (x31_2 < (y131.length : Int)) = false := decide_eq_false c15
            clear c15
            have H' := Aside0.mk H
            clear H
            go_wp2
            go_roundg k2
            case measure => have := HK1.out; have := HK2.out; omega
            case rel => exact ⟨(wrap64 (x19_1 + 1)), (by first | rfl | (simp; done) | (simp [*]; done)), H', ⟨by have := HK1.out; have := HK2.out; omega⟩, ⟨zb⟩⟩
        ·rw [if_neg c10] at H
         exact absurd H (by simp)
       ·replace c8 := Bool.eq_false_iff.mpr c8
        subst c8
        have H1 : (some false) = some r := by rw [if_neg (show ¬ (false = true) by decide)] at H; exact H
        clear H
        have H := H1
        clear H1
        obtain rfl := Option.some.inj H
        have p128 : 0 ≤ (x19_1 : Int) := of_decide_eq_true (by first | (with_reducible assumption) | assumption)
        have q128 : x19_1 < (l0.length : Int) := of_decide_eq_true (by first | (with_reducible assumption) | assumption)
        obtain ⟨ad128, e128, hx128_0, hx128_1⟩ := at_T33 HR0.out x19_1 p128 q128
        cases e128
        replace hx128_0 := zc HB hx128_0
        replace hx128_1 := zc HB hx128_1
        replace p128 := eq_true p128
        replace q128 := eq_true q128
        go_wp2_with (first | ((with_reducible refine gate_dst (N := 5) rfl ?_); refine box_event ?hg (N := 5) ?hd (cs := #[.int .i64 0, .int .i64 0]) (t := 33) ?hr ?_; (case hd => rfl); (case hg => rfl); (case hr => first | (go_simp; done) | (go_simp; rfl)); intro gb129 hg w27 hbox hb; have n0_ := Aside0.mk (below_step zb hb); have n1_ := Aside0.mk (hbox); have n2_ := Aside0.mk ((by rw [hg]; exact (below_size zb) : w.heap.size ≤ gb129)); have n3_ := Aside0.mk ((by rw [hg]; exact (below_size zb) : w.heap.size ≤ gb129)); clear HB; have HB := n0_; have BK129 := n1_; have GW129 := n2_; have GE129 := n3_; clear n0_ n1_ n2_ n3_; clear hb hbox hg; have hcz28_0 : w27.cell? ⟨gb129, 0, none⟩ = some (.int .i64 0) := (blk_cell BK129.out 0).trans rfl; have hcz28_1 : w27.cell? ⟨gb129, 1, none⟩ = some (.int .i64 0) := (blk_cell BK129.out 1).trans rfl; have hfz28_0 := blk_frozen BK129.out 0; have hfz28_1 := blk_frozen BK129.out 1) | ((with_reducible refine gate_callee (f := 16) rfl ?_); refine goesL_ (some 25) rfl rfl Tryd.func16 (by kernel_rfl) rfl #[.agg #[.int .i64 ((rd_T33 l0 x19_1).f0), .int .i64 ((rd_T33 l0 x19_1).f1)]] rfl zn ?_; (with_reducible refine (spec_pgIs.calls ((rd_T33 l0 x19_1).f0) ((rd_T33 l0 x19_1).f1) false _ A7.out).mono ?_); rintro e w29 ⟨rfl, hb⟩; refine ⟨_, rfl, ?_⟩; have n0_ := Aside0.mk (blk_below (g := gb129) (o := .cells #[.int .i64 ((rd_T33 l0 x19_1).f0), .int .i64 ((rd_T33 l0 x19_1).f1)] 33 (0, 0)) (by (with_reducible repeat (first | refine blk_drewN ?_ _ | refine blk_drew ?_ | refine blk_alloc ?_ _)); refine blk_put (cs := #[.int .i64 ((rd_T33 l0 x19_1).f0), .int .i64 0]) ?_ 1 _ rfl; (with_reducible repeat (first | refine blk_drewN ?_ _ | refine blk_drew ?_ | refine blk_alloc ?_ _)); refine blk_put (cs := #[.int .i64 0, .int .i64 0]) ?_ 0 _ rfl; (with_reducible repeat (first | refine blk_drewN ?_ _ | refine blk_drew ?_ | refine blk_alloc ?_ _)); exact BK129.out) hb); have n1_ := Aside0.mk (below_step zb hb); clear BK129; clear HB; have BK129 := n0_; have HB := n1_; clear n0_ n1_; (try clear hb); (try clear hb2); (try clear hk); (try clear hi)))
        go_ret
        exact ⟨by first | rfl | (simp [errW_none, errW_some] <;> rfl) | (simp [*, errW_none, errW_some] <;> rfl), zb⟩
      ·rw [if_neg c6] at H
       exact absurd H (by simp)
     ·rw [if_neg c5] at H
      exact absurd H (by simp)
    ·rw [if_neg c4] at H
     have c4b0 : decide (x19_1 < (l0.length : Int)) = false := decide_eq_false c4
     clear c4
     have H' := Aside0.mk H
     clear H
     go_wp2
     go_loopg [42] k1 (fun kq v42 w' => ∃ (x42_2 : Int), v42 = .int .i64 x42_2 ∧ Aside0 (spec_pgGood.l2 kq l0 (l0.length : Int) l0 (l0.length : Int) x42_2 = some r) ∧ Aside0 (kq ≤ k1) ∧ Aside0 (Below w.heap.size w w'))
     case atStart => exact ⟨(0), (by first | rfl | (simp; done) | (simp [*]; done)), H', ⟨Nat.le_refl _⟩, ⟨zb⟩⟩
     case round =>
      clear H'
      try clear c1
      try clear p1
      try clear q1
      try clear hx1
      try clear c2
      try clear p2
      try clear c3
      try clear c4
      try clear c4b0
      try clear c5
      try clear c5b0
      try clear c6
      try clear c6b0
      try clear p6
      try clear c8
      try clear c9
      try clear c9b0
      try clear c10
      try clear c10b0
      try clear c10b1
      try clear p12
      try clear q12
      try clear hx12
      try clear p13
      try clear q13
      try clear hx13
      try clear q14
      try clear c15
      try clear c15b0
      try clear c16
      try clear c16b0
      try clear c17
      try clear c17b0
      try clear c18
      try clear c18b0
      try clear c18b1
      try clear c18b2
      try clear c20
      try clear c24
      try clear hcz12_0
      try clear hcz12_1
      try clear hcz21_0
      try clear hcz21_1
      try clear hcz22_0
      try clear hcz22_1
      try clear hcz25_0
      try clear hcz25_1
      try clear hcz26_0
      try clear hcz26_1
      try clear hcz28_0
      try clear hcz28_1
      try clear hfz12_0
      try clear hfz12_1
      try clear hfz21_0
      try clear hfz21_1
      try clear hfz22_0
      try clear hfz22_1
      try clear hfz25_0
      try clear hfz25_1
      try clear hfz26_0
      try clear hfz26_1
      try clear hfz28_0
      try clear hfz28_1
      try clear hx128_0
      try clear hx128_1
      try clear hx135_0
      try clear hx135_1
      try clear p1
      try clear p12
      try clear p128
      try clear p135
      try clear p2
      try clear q1
      try clear q12
      try clear q128
      try clear q135
      try clear q14
      obtain ⟨x42_2, rfl, HA, HK2, HB⟩ := hrel
      cases gk with
      | zero => exact absurd HA.out (by simp [spec_pgGood.l2])
      | succ k2 =>
       have H := HA.out
       clear HA
       simp only [spec_pgGood.l2] at H
       by_cases c30 : x42_2 < (l0.length : Int)
       ·rw [if_pos c30] at H
        have c30b0 : decide (x42_2 < (l0.length : Int)) = true := decide_eq_true c30
        clear c30
        by_cases c31 : 0 ≤ x42_2
        ·rw [if_pos c31] at H
         have c31b0 : decide (0 ≤ x42_2) = true := decide_eq_true c31
         clear c31
         by_cases c32 : x42_2 < (l0.length : Int)
         ·rw [if_pos c32] at H
          have c32b0 : decide (x42_2 < (l0.length : Int)) = true := decide_eq_true c32
          clear c32
          by_cases c33 : (l0.length : Int) = 0
          ·rw [if_pos c33] at H
           exact absurd H (by simp)
          ·rw [if_neg c33] at H
           have c33b0 : ((l0.length : Int) == 0) = false := beq_eq_false_iff_ne.mpr c33
           have c33b1 : ((l0.length : Int) != 0) = true := bne_iff_ne.mpr c33
           have c33b2 : ¬ (l0 = []) := fun h_ => c33 (by rw [h_]; rfl)
           obtain ⟨ji34, hji34⟩ : ∃ j_ : Int, (Int.tmod (wrap64 (x42_2 + 1)) (l0.length : Int)) = j_ := ⟨_, rfl⟩
           replace H : (if 0 ≤ (ji34) then (if (ji34) < (l0.length : Int) then (if 0 ≤ (Int.tmod (wrap64 (x42_2 + 2)) (l0.length : Int)) then (if (Int.tmod (wrap64 (x42_2 + 2)) (l0.length : Int)) < (l0.length : Int) then ((spec_pgTurn.f ((rd_T33 l0 x42_2).f0) ((rd_T33 l0 x42_2).f1) ((rd_T33 l0 (ji34)).f0) ((rd_T33 l0 (ji34)).f1) ((rd_T33 l0 (Int.tmod (wrap64 (x42_2 + 2)) (l0.length : Int))).f0) ((rd_T33 l0 (Int.tmod (wrap64 (x42_2 + 2)) (l0.length : Int))).f1)).bind fun t142 => (if t142 = 0 then (some false) else (spec_pgGood.l3 k2 l0 (l0.length : Int) x42_2 (wrap64 (x42_2 + 2)) l0 (l0.length : Int) x42_2 ((rd_T33 l0 x42_2).f0) ((rd_T33 l0 x42_2).f1) ((rd_T33 l0 (ji34)).f0) ((rd_T33 l0 (ji34)).f1)))) else (none)) else (none)) else (none)) else (none)) = some r := by first | (rw [hji34] at H; exact H) | (simp only [hji34] at H ⊢; exact H)
           by_cases c35 : 0 ≤ (ji34)
           ·rw [if_pos c35] at H
            have c35b0 : decide (0 ≤ (ji34)) = true := decide_eq_true c35
            clear c35
            by_cases c36 : (ji34) < (l0.length : Int)
            ·rw [if_pos c36] at H
             have c36b0 : decide ((ji34) < (l0.length : Int)) = true := decide_eq_true c36
             clear c36
             obtain ⟨ji37, hji37⟩ : ∃ j_ : Int, (Int.tmod (wrap64 (x42_2 + 2)) (l0.length : Int)) = j_ := ⟨_, rfl⟩
             replace H : (if 0 ≤ (ji37) then (if (ji37) < (l0.length : Int) then ((spec_pgTurn.f ((rd_T33 l0 x42_2).f0) ((rd_T33 l0 x42_2).f1) ((rd_T33 l0 (ji34)).f0) ((rd_T33 l0 (ji34)).f1) ((rd_T33 l0 (ji37)).f0) ((rd_T33 l0 (ji37)).f1)).bind fun t142 => (if t142 = 0 then (some false) else (spec_pgGood.l3 k2 l0 (l0.length : Int) x42_2 (wrap64 (x42_2 + 2)) l0 (l0.length : Int) x42_2 ((rd_T33 l0 x42_2).f0) ((rd_T33 l0 x42_2).f1) ((rd_T33 l0 (ji34)).f0) ((rd_T33 l0 (ji34)).f1)))) else (none)) else (none)) = some r := by first | (rw [hji37] at H; exact H) | (simp only [hji37] at H ⊢; exact H)
             by_cases c38 : 0 ≤ (ji37)
             ·rw [if_pos c38] at H
              have c38b0 : decide (0 ≤ (ji37)) = true := decide_eq_true c38
              clear c38
              by_cases c39 : (ji37) < (l0.length : Int)
              ·rw [if_pos c39] at H
               have c39b0 : decide ((ji37) < (l0.length : Int)) = true := decide_eq_true c39
               clear c39
               replace H := Option.bind_eq_some_iff.mp H
               obtain ⟨t142, A400, H⟩ := H
               replace H : (if t142 = 0 then (some false) else (spec_pgGood.l3 k2 l0 (l0.length : Int) x42_2 (wrap64 (x42_2 + 2)) l0 (l0.length : Int) x42_2 ((rd_T33 l0 x42_2).f0) ((rd_T33 l0 x42_2).f1) ((rd_T33 l0 (ji34)).f0) ((rd_T33 l0 (ji34)).f1))) = some r := H
               have A40 := Aside0.mk A400
               clear A400
               by_cases c41 : t142 = 0
               ·rw [if_pos c41] at H
                have c41b0 : (t142 == 0) = true := beq_iff_eq.mpr c41
                have c41b1 : (t142 != 0) = false := bne_eq_false_iff_eq.mpr c41
                clear c41
                obtain rfl := Option.some.inj H
                have p137 : 0 ≤ (x42_2 : Int) := of_decide_eq_true (by first | (with_reducible assumption) | assumption)
                have q137 : x42_2 < (l0.length : Int) := of_decide_eq_true (by first | (with_reducible assumption) | assumption)
                obtain ⟨ad137, e137, hx137_0, hx137_1⟩ := at_T33 HR0.out x42_2 p137 q137
                cases e137
                replace hx137_0 := zc HB hx137_0
                replace hx137_1 := zc HB hx137_1
                replace p137 := eq_true p137
                replace q137 := eq_true q137
                try go_wp2_with (first | ((with_reducible refine gate_dst (N := 9) rfl ?_); refine box_event ?hg (N := 9) ?hd (cs := #[.int .i64 0, .int .i64 0]) (t := 33) ?hr ?_; (case hd => rfl); (case hg => rfl); (case hr => first | (go_simp; done) | (go_simp; rfl)); intro gb138 hg w42 hbox hb; have n0_ := Aside0.mk (below_step zb hb); have n1_ := Aside0.mk (hbox); have n2_ := Aside0.mk ((by rw [hg]; exact (below_size zb) : w.heap.size ≤ gb138)); have n3_ := Aside0.mk ((by rw [hg]; exact (below_size zb) : w.heap.size ≤ gb138)); clear HB; have HB := n0_; have BK138 := n1_; have GW138 := n2_; have GE138 := n3_; clear n0_ n1_ n2_ n3_; clear hb hbox hg; have hcz43_0 : w42.cell? ⟨gb138, 0, none⟩ = some (.int .i64 0) := (blk_cell BK138.out 0).trans rfl; have hcz43_1 : w42.cell? ⟨gb138, 1, none⟩ = some (.int .i64 0) := (blk_cell BK138.out 1).trans rfl; have hfz43_0 := blk_frozen BK138.out 0; have hfz43_1 := blk_frozen BK138.out 1; have p139 : 0 ≤ ((ji34) : Int) := of_decide_eq_true (by first | (with_reducible assumption) | assumption); have q139 : (ji34) < (l0.length : Int) := of_decide_eq_true (by first | (with_reducible assumption) | assumption); obtain ⟨ad139, e139, hx139_0, hx139_1⟩ := at_T33 HR0.out (ji34) p139 q139; obtain rfl : ad137 = ad139 := (by injection e139); have hn139_0 : ad137.block ≠ gb138 := Nat.ne_of_lt (Nat.lt_of_lt_of_le (by have := World.block_lt_of_cell? _ _ hx139_0; first | rwa [add_block] at this | exact this) GW138.out); have hn139_1 : ad137.block ≠ gb138 := Nat.ne_of_lt (Nat.lt_of_lt_of_le (by have := World.block_lt_of_cell? _ _ hx139_0; first | rwa [add_block] at this | exact this) GW138.out); replace hx139_0 := zc HB hx139_0; replace hx139_1 := zc HB hx139_1; replace hx139_0 := (cell_far (p := ⟨gb138, 0, none⟩) (by first | (rw [add_block]; exact hn139_0) | (show (Addr.add _ _).block ≠ _; rw [add_block]; exact hn139_0) | exact hn139_0) (.int .i64 ((rd_T33 l0 x42_2).f0))).trans hx139_0; replace hx139_1 := (cell_far (p := ⟨gb138, 0, none⟩) (by first | (rw [add_block]; exact hn139_0) | (show (Addr.add _ _).block ≠ _; rw [add_block]; exact hn139_0) | exact hn139_0) (.int .i64 ((rd_T33 l0 x42_2).f0))).trans hx139_1; replace hx139_0 := (cell_far (p := ⟨gb138, 1, none⟩) (by first | (rw [add_block]; exact hn139_1) | (show (Addr.add _ _).block ≠ _; rw [add_block]; exact hn139_1) | exact hn139_1) (.int .i64 ((rd_T33 l0 x42_2).f1))).trans hx139_0; replace hx139_1 := (cell_far (p := ⟨gb138, 1, none⟩) (by first | (rw [add_block]; exact hn139_1) | (show (Addr.add _ _).block ≠ _; rw [add_block]; exact hn139_1) | exact hn139_1) (.int .i64 ((rd_T33 l0 x42_2).f1))).trans hx139_1; clear hn139_0; clear hn139_1; replace p139 := eq_true p139; replace q139 := eq_true q139) | ((with_reducible refine gate_dst (N := 10) rfl ?_); refine box_event ?hg (N := 10) ?hd (cs := #[.int .i64 0, .int .i64 0]) (t := 33) ?hr ?_; (case hd => rfl); (case hg => rfl); (case hr => first | (go_simp; done) | (go_simp; rfl)); intro gb140 hg w44 hbox hb; have n0_ := Aside0.mk (blk_below (g := gb138) (o := .cells #[.int .i64 ((rd_T33 l0 x42_2).f0), .int .i64 ((rd_T33 l0 x42_2).f1)] 33 (0, 0)) (by (with_reducible repeat (first | refine blk_drewN ?_ _ | refine blk_drew ?_ | refine blk_alloc ?_ _)); refine blk_put (cs := #[.int .i64 ((rd_T33 l0 x42_2).f0), .int .i64 0]) ?_ 1 _ rfl; (with_reducible repeat (first | refine blk_drewN ?_ _ | refine blk_drew ?_ | refine blk_alloc ?_ _)); refine blk_put (cs := #[.int .i64 0, .int .i64 0]) ?_ 0 _ rfl; (with_reducible repeat (first | refine blk_drewN ?_ _ | refine blk_drew ?_ | refine blk_alloc ?_ _)); exact BK138.out) hb); have n1_ := Aside0.mk (below_step zb hb); have n2_ := Aside0.mk (hbox); have n3_ := Aside0.mk ((by rw [hg]; exact (below_size zb) : w.heap.size ≤ gb140)); have n4_ := Aside0.mk ((by rw [hg]; exact (below_size zb) : w.heap.size ≤ gb140)); have n5_ := Aside0.mk ((by rw [hg]; exact Nat.ne_of_lt (blk_lt (g := gb138) (o := .cells #[.int .i64 ((rd_T33 l0 x42_2).f0), .int .i64 ((rd_T33 l0 x42_2).f1)] 33 (0, 0)) (by (with_reducible repeat (first | refine blk_drewN ?_ _ | refine blk_drew ?_ | refine blk_alloc ?_ _)); refine blk_put (cs := #[.int .i64 ((rd_T33 l0 x42_2).f0), .int .i64 0]) ?_ 1 _ rfl; (with_reducible repeat (first | refine blk_drewN ?_ _ | refine blk_drew ?_ | refine blk_alloc ?_ _)); refine blk_put (cs := #[.int .i64 0, .int .i64 0]) ?_ 0 _ rfl; (with_reducible repeat (first | refine blk_drewN ?_ _ | refine blk_drew ?_ | refine blk_alloc ?_ _)); exact BK138.out)) : gb138 ≠ gb140)); have n6_ := Aside0.mk ((by rw [hg]; exact Nat.ne_of_gt (blk_lt (g := gb138) (o := .cells #[.int .i64 ((rd_T33 l0 x42_2).f0), .int .i64 ((rd_T33 l0 x42_2).f1)] 33 (0, 0)) (by (with_reducible repeat (first | refine blk_drewN ?_ _ | refine blk_drew ?_ | refine blk_alloc ?_ _)); refine blk_put (cs := #[.int .i64 ((rd_T33 l0 x42_2).f0), .int .i64 0]) ?_ 1 _ rfl; (with_reducible repeat (first | refine blk_drewN ?_ _ | refine blk_drew ?_ | refine blk_alloc ?_ _)); refine blk_put (cs := #[.int .i64 0, .int .i64 0]) ?_ 0 _ rfl; (with_reducible repeat (first | refine blk_drewN ?_ _ | refine blk_drew ?_ | refine blk_alloc ?_ _)); exact BK138.out)) : gb140 ≠ gb138)); clear BK138; clear HB; have BK138 := n0_; have HB := n1_; have BK140 := n2_; have GW140 := n3_; have GE140 := n4_; have NB138_140 := n5_; have NB140_138 := n6_; clear n0_ n1_ n2_ n3_ n4_ n5_ n6_; clear hb hbox hg; have hnb45 := NB140_138.out; have hnc45 := NB138_140.out; have hcz46_0 : w44.cell? ⟨gb140, 0, none⟩ = some (.int .i64 0) := (blk_cell BK140.out 0).trans rfl; have hcz46_1 : w44.cell? ⟨gb140, 1, none⟩ = some (.int .i64 0) := (blk_cell BK140.out 1).trans rfl; have hfz46_0 := blk_frozen BK140.out 0; have hfz46_1 := blk_frozen BK140.out 1))
                have n0_ : Aside0 (((w44.setCell ⟨gb140, 0, none⟩ (.int .i64 ((rd_T33 l0 (ji34)).f0))).setCell ⟨gb140, 1, none⟩ (.int .i64 ((rd_T33 l0 (ji34)).f1))).heap[gb138]? = some (.cells #[.int .i64 ((rd_T33 l0 x42_2).f0), .int .i64 ((rd_T33 l0 x42_2).f1)] 33 (0, 0))) := ⟨by (with_reducible repeat (first | refine blk_drewN ?_ _ | refine blk_drew ?_ | refine blk_alloc ?_ _)); refine blk_far ?_ NB138_140.out _; (with_reducible repeat (first | refine blk_drewN ?_ _ | refine blk_drew ?_ | refine blk_alloc ?_ _)); refine blk_far ?_ NB138_140.out _; (with_reducible repeat (first | refine blk_drewN ?_ _ | refine blk_drew ?_ | refine blk_alloc ?_ _)); exact BK138.out⟩
                have n1_ : Aside0 (((w44.setCell ⟨gb140, 0, none⟩ (.int .i64 ((rd_T33 l0 (ji34)).f0))).setCell ⟨gb140, 1, none⟩ (.int .i64 ((rd_T33 l0 (ji34)).f1))).heap[gb140]? = some (.cells #[.int .i64 ((rd_T33 l0 (ji34)).f0), .int .i64 ((rd_T33 l0 (ji34)).f1)] 33 (0, 0))) := ⟨by (with_reducible repeat (first | refine blk_drewN ?_ _ | refine blk_drew ?_ | refine blk_alloc ?_ _)); refine blk_put (cs := #[.int .i64 ((rd_T33 l0 (ji34)).f0), .int .i64 0]) ?_ 1 _ rfl; (with_reducible repeat (first | refine blk_drewN ?_ _ | refine blk_drew ?_ | refine blk_alloc ?_ _)); refine blk_put (cs := #[.int .i64 0, .int .i64 0]) ?_ 0 _ rfl; (with_reducible repeat (first | refine blk_drewN ?_ _ | refine blk_drew ?_ | refine blk_alloc ?_ _)); exact BK140.out⟩
                have n2_ : Aside0 (Below w.heap.size w ((w44.setCell ⟨gb140, 0, none⟩ (.int .i64 ((rd_T33 l0 (ji34)).f0))).setCell ⟨gb140, 1, none⟩ (.int .i64 ((rd_T33 l0 (ji34)).f1)))) := ⟨zb⟩
                (try clear BK138)
                (try clear BK140)
                (try clear HB)
                generalize ((w44.setCell ⟨gb140, 0, none⟩ (.int .i64 ((rd_T33 l0 (ji34)).f0))).setCell ⟨gb140, 1, none⟩ (.int .i64 ((rd_T33 l0 (ji34)).f1))) = w47 at n0_ n1_ n2_ ⊢
                have BK138 := n0_
                have BK140 := n1_
                have HB := n2_
                clear n0_ n1_ n2_
                have n0_ := Aside0.mk (blk_drew BK138.out)
                have n1_ := Aside0.mk (blk_drew BK140.out)
                have n2_ := Aside0.mk (below_drew1 HB.out)
                clear BK138
                clear BK140
                clear HB
                have BK138 := n0_
                have BK140 := n1_
                have HB := n2_
                clear n0_ n1_ n2_
                have p141 : 0 ≤ ((ji37) : Int) := of_decide_eq_true (by first | (with_reducible assumption) | assumption)
                have q141 : (ji37) < (l0.length : Int) := of_decide_eq_true (by first | (with_reducible assumption) | assumption)
                obtain ⟨ad141, e141, hx141_0, hx141_1⟩ := at_T33 HR0.out (ji37) p141 q141
                have hw141_1 := hx141_1
                have hw141_0 := hx141_0
                obtain rfl : ad137 = ad141 := (by injection e141)
                replace hx141_0 := zc HB hx141_0
                replace hx141_1 := zc HB hx141_1
                replace p141 := eq_true p141
                replace q141 := eq_true q141
                refine start_ (n := 11) (S := fun w' => w'.cell? ⟨gb138, 0, none⟩ = some (.int .i64 ((rd_T33 l0 x42_2).f0)) ∧ w'.cell? ⟨gb138, 1, none⟩ = some (.int .i64 ((rd_T33 l0 x42_2).f1)) ∧ w'.cell? ⟨gb140, 0, none⟩ = some (.int .i64 ((rd_T33 l0 (ji34)).f0)) ∧ w'.cell? ⟨gb140, 1, none⟩ = some (.int .i64 ((rd_T33 l0 (ji34)).f1)) ∧ w'.cell? (ad137.add (((ji37)).toNat * 2)) = some (.int .i64 ((rd_T33 l0 (ji37)).f0)) ∧ w'.cell? ⟨(ad137.add (((ji37)).toNat * 2)).block, (ad137.add (((ji37)).toNat * 2)).off + 1, none⟩ = some (.int .i64 ((rd_T33 l0 (ji37)).f1))) (ds := []) (zl 11 0) (by kernel_rfl) rfl rfl ⟨(blk_cell BK138.out 0).trans rfl, (blk_cell BK138.out 1).trans rfl, (blk_cell BK140.out 0).trans rfl, (blk_cell BK140.out 1).trans rfl, (zc HB hw141_0), (zc HB hw141_1)⟩ (fun hHeld => ?_); refine with_tabW spec_pgGood.tab20 spec_pgGood.bits20 (fun HT_ HW_ => ?_)
                generalize w47.drew = w48 at BK138 BK140 HB hx141_0 hx141_1 hHeld ⊢
                refine zp 2 56 11 4 HT_ ?_
                refine zp 3 57 11 12 HT_ ?_
                refine zp 4 58 11 28 HT_ ?_
                refine zp 5 59 11 60 HT_ ?_
                refine zp 6 60 11 124 HT_ ?_
                refine zp 7 61 11 252 HT_ ?_
                refine take_ (i := 0) (N := some 54) (v := ?_) (a' := ?_) (zl 11 253) rfl rfl (take_ofW HT_.out HW_.out (by kernel_rfl)) (fun _ _ _ h => h) (Or.inl ⟨by rfl, ?_⟩) hHeld ?_ ?_
                rotate_left
                ·rintro w' ⟨s0, s1, s2, s3, s4, s5⟩
                 go_simp
                 with_reducible rfl
                rotate_left
                ·exact zs
                refine take_ (i := 1) (N := some 55) (v := ?_) (a' := ?_) (zl 11 255) rfl rfl (take_ofW HT_.out HW_.out (by kernel_rfl)) (fun _ _ _ h => h) (Or.inl ⟨by rfl, ?_⟩) hHeld ?_ ?_
                rotate_left
                ·rintro w' ⟨s0, s1, s2, s3, s4, s5⟩
                 go_simp
                 with_reducible rfl
                rotate_left
                ·exact zs
                refine take_ (i := 8) (N := some 62) (v := ?_) (a' := ?_) (zl 11 511) rfl rfl (take_ofW HT_.out HW_.out (by kernel_rfl)) (fun _ _ _ h => h) (Or.inl ⟨by rfl, ?_⟩) hHeld ?_ ?_
                rotate_left
                ·rintro w' ⟨s0, s1, s2, s3, s4, s5⟩
                 go_simp
                 with_reducible rfl
                rotate_left
                ·exact zs
                refine one_ (i := 9) (N := some 63) (zl 11 1023) rfl rfl (one_of HT_.out (by kernel_rfl)) (by decide) (fun K hK => ?_)
                refine goes_ Tryd.func17 (by kernel_rfl) rfl #[.agg #[.int .i64 ((rd_T33 l0 x42_2).f0), .int .i64 ((rd_T33 l0 x42_2).f1)], .agg #[.int .i64 ((rd_T33 l0 (ji34)).f0), .int .i64 ((rd_T33 l0 (ji34)).f1)], .agg #[.int .i64 ((rd_T33 l0 (ji37)).f0), .int .i64 ((rd_T33 l0 (ji37)).f1)]] (by rfl) rfl rfl (by (try simp only [List.map_toArray, List.map_cons, List.map_nil]); first | done | (simp only [hji34, hji37]; rfl) | rfl | (simp only [List.length_drop, List.length_take]; rfl)) ?_
                with_reducible refine (spec_pgTurn.calls ((rd_T33 l0 x42_2).f0) ((rd_T33 l0 x42_2).f1) ((rd_T33 l0 (ji34)).f0) ((rd_T33 l0 (ji34)).f1) ((rd_T33 l0 (ji37)).f0) ((rd_T33 l0 (ji37)).f1) t142 _ A40.out).mono ?_
                rintro e w49 ⟨rfl, hb⟩
                refine ⟨_, rfl, ?_⟩
                have n0_ := Aside0.mk (blk_below (g := gb138) (o := .cells #[.int .i64 ((rd_T33 l0 x42_2).f0), .int .i64 ((rd_T33 l0 x42_2).f1)] 33 (0, 0)) zk hb)
                have n1_ := Aside0.mk (blk_below (g := gb140) (o := .cells #[.int .i64 ((rd_T33 l0 (ji34)).f0), .int .i64 ((rd_T33 l0 (ji34)).f1)] 33 (0, 0)) zk hb)
                have n2_ := Aside0.mk (below_step zb hb)
                clear BK138
                clear BK140
                clear HB
                have BK138 := n0_
                have BK140 := n1_
                have HB := n2_
                clear n0_ n1_ n2_
                (try clear hb)
                (try clear hb2)
                (try clear hk)
                (try clear hi)
                refine hK.out _ _ ⟨(blk_cell BK138.out 0).trans rfl, (blk_cell BK138.out 1).trans rfl, (blk_cell BK140.out 0).trans rfl, (blk_cell BK140.out 1).trans rfl, (zc HB hw141_0), (zc HB hw141_1)⟩ (fun hHeld => ?_)
                clear hK K
                refine norm_ (a' := ?_) ?_ ?_
                rotate_left
                ·show Act.put _ (some 63) _ = _
                 exact zs
                refine zp 10 64 11 2047 HT_ ?_
                refine done_ (done_of HT_.out (by kernel_rfl)) ?_
                try go_wp2
                go_ret
                exact ⟨by first | rfl | (simp [errW_none, errW_some] <;> rfl) | (simp only [← hji34, ← hji37]; first | rfl | (simp [errW_none, errW_some] <;> rfl)) | (simp [*, errW_none, errW_some] <;> rfl), zb⟩
               ·rw [if_neg c41] at H
                have c41b0 : (t142 == 0) = false := beq_eq_false_iff_ne.mpr c41
                have c41b1 : (t142 != 0) = true := bne_iff_ne.mpr c41
                have H' := Aside0.mk H
                clear H
                have p137 : 0 ≤ (x42_2 : Int) := of_decide_eq_true (by first | (with_reducible assumption) | assumption)
                have q137 : x42_2 < (l0.length : Int) := of_decide_eq_true (by first | (with_reducible assumption) | assumption)
                obtain ⟨ad137, e137, hx137_0, hx137_1⟩ := at_T33 HR0.out x42_2 p137 q137
                cases e137
                replace hx137_0 := zc HB hx137_0
                replace hx137_1 := zc HB hx137_1
                replace p137 := eq_true p137
                replace q137 := eq_true q137
                try go_wp2_with (first | ((with_reducible refine gate_dst (N := 9) rfl ?_); refine box_event ?hg (N := 9) ?hd (cs := #[.int .i64 0, .int .i64 0]) (t := 33) ?hr ?_; (case hd => rfl); (case hg => rfl); (case hr => first | (go_simp; done) | (go_simp; rfl)); intro gb138 hg w50 hbox hb; have n0_ := Aside0.mk (below_step zb hb); have n1_ := Aside0.mk (hbox); have n2_ := Aside0.mk ((by rw [hg]; exact (below_size zb) : w.heap.size ≤ gb138)); have n3_ := Aside0.mk ((by rw [hg]; exact (below_size zb) : w.heap.size ≤ gb138)); clear HB; have HB := n0_; have BK138 := n1_; have GW138 := n2_; have GE138 := n3_; clear n0_ n1_ n2_ n3_; clear hb hbox hg; have hcz51_0 : w50.cell? ⟨gb138, 0, none⟩ = some (.int .i64 0) := (blk_cell BK138.out 0).trans rfl; have hcz51_1 : w50.cell? ⟨gb138, 1, none⟩ = some (.int .i64 0) := (blk_cell BK138.out 1).trans rfl; have hfz51_0 := blk_frozen BK138.out 0; have hfz51_1 := blk_frozen BK138.out 1; have p139 : 0 ≤ ((ji34) : Int) := of_decide_eq_true (by first | (with_reducible assumption) | assumption); have q139 : (ji34) < (l0.length : Int) := of_decide_eq_true (by first | (with_reducible assumption) | assumption); obtain ⟨ad139, e139, hx139_0, hx139_1⟩ := at_T33 HR0.out (ji34) p139 q139; obtain rfl : ad137 = ad139 := (by injection e139); have hn139_0 : ad137.block ≠ gb138 := Nat.ne_of_lt (Nat.lt_of_lt_of_le (by have := World.block_lt_of_cell? _ _ hx139_0; first | rwa [add_block] at this | exact this) GW138.out); have hn139_1 : ad137.block ≠ gb138 := Nat.ne_of_lt (Nat.lt_of_lt_of_le (by have := World.block_lt_of_cell? _ _ hx139_0; first | rwa [add_block] at this | exact this) GW138.out); replace hx139_0 := zc HB hx139_0; replace hx139_1 := zc HB hx139_1; replace hx139_0 := (cell_far (p := ⟨gb138, 0, none⟩) (by first | (rw [add_block]; exact hn139_0) | (show (Addr.add _ _).block ≠ _; rw [add_block]; exact hn139_0) | exact hn139_0) (.int .i64 ((rd_T33 l0 x42_2).f0))).trans hx139_0; replace hx139_1 := (cell_far (p := ⟨gb138, 0, none⟩) (by first | (rw [add_block]; exact hn139_0) | (show (Addr.add _ _).block ≠ _; rw [add_block]; exact hn139_0) | exact hn139_0) (.int .i64 ((rd_T33 l0 x42_2).f0))).trans hx139_1; replace hx139_0 := (cell_far (p := ⟨gb138, 1, none⟩) (by first | (rw [add_block]; exact hn139_1) | (show (Addr.add _ _).block ≠ _; rw [add_block]; exact hn139_1) | exact hn139_1) (.int .i64 ((rd_T33 l0 x42_2).f1))).trans hx139_0; replace hx139_1 := (cell_far (p := ⟨gb138, 1, none⟩) (by first | (rw [add_block]; exact hn139_1) | (show (Addr.add _ _).block ≠ _; rw [add_block]; exact hn139_1) | exact hn139_1) (.int .i64 ((rd_T33 l0 x42_2).f1))).trans hx139_1; clear hn139_0; clear hn139_1; replace p139 := eq_true p139; replace q139 := eq_true q139) | ((with_reducible refine gate_dst (N := 10) rfl ?_); refine box_event ?hg (N := 10) ?hd (cs := #[.int .i64 0, .int .i64 0]) (t := 33) ?hr ?_; (case hd => rfl); (case hg => rfl); (case hr => first | (go_simp; done) | (go_simp; rfl)); intro gb140 hg w52 hbox hb; have n0_ := Aside0.mk (blk_below (g := gb138) (o := .cells #[.int .i64 ((rd_T33 l0 x42_2).f0), .int .i64 ((rd_T33 l0 x42_2).f1)] 33 (0, 0)) (by (with_reducible repeat (first | refine blk_drewN ?_ _ | refine blk_drew ?_ | refine blk_alloc ?_ _)); refine blk_put (cs := #[.int .i64 ((rd_T33 l0 x42_2).f0), .int .i64 0]) ?_ 1 _ rfl; (with_reducible repeat (first | refine blk_drewN ?_ _ | refine blk_drew ?_ | refine blk_alloc ?_ _)); refine blk_put (cs := #[.int .i64 0, .int .i64 0]) ?_ 0 _ rfl; (with_reducible repeat (first | refine blk_drewN ?_ _ | refine blk_drew ?_ | refine blk_alloc ?_ _)); exact BK138.out) hb); have n1_ := Aside0.mk (below_step zb hb); have n2_ := Aside0.mk (hbox); have n3_ := Aside0.mk ((by rw [hg]; exact (below_size zb) : w.heap.size ≤ gb140)); have n4_ := Aside0.mk ((by rw [hg]; exact (below_size zb) : w.heap.size ≤ gb140)); have n5_ := Aside0.mk ((by rw [hg]; exact Nat.ne_of_lt (blk_lt (g := gb138) (o := .cells #[.int .i64 ((rd_T33 l0 x42_2).f0), .int .i64 ((rd_T33 l0 x42_2).f1)] 33 (0, 0)) (by (with_reducible repeat (first | refine blk_drewN ?_ _ | refine blk_drew ?_ | refine blk_alloc ?_ _)); refine blk_put (cs := #[.int .i64 ((rd_T33 l0 x42_2).f0), .int .i64 0]) ?_ 1 _ rfl; (with_reducible repeat (first | refine blk_drewN ?_ _ | refine blk_drew ?_ | refine blk_alloc ?_ _)); refine blk_put (cs := #[.int .i64 0, .int .i64 0]) ?_ 0 _ rfl; (with_reducible repeat (first | refine blk_drewN ?_ _ | refine blk_drew ?_ | refine blk_alloc ?_ _)); exact BK138.out)) : gb138 ≠ gb140)); have n6_ := Aside0.mk ((by rw [hg]; exact Nat.ne_of_gt (blk_lt (g := gb138) (o := .cells #[.int .i64 ((rd_T33 l0 x42_2).f0), .int .i64 ((rd_T33 l0 x42_2).f1)] 33 (0, 0)) (by (with_reducible repeat (first | refine blk_drewN ?_ _ | refine blk_drew ?_ | refine blk_alloc ?_ _)); refine blk_put (cs := #[.int .i64 ((rd_T33 l0 x42_2).f0), .int .i64 0]) ?_ 1 _ rfl; (with_reducible repeat (first | refine blk_drewN ?_ _ | refine blk_drew ?_ | refine blk_alloc ?_ _)); refine blk_put (cs := #[.int .i64 0, .int .i64 0]) ?_ 0 _ rfl; (with_reducible repeat (first | refine blk_drewN ?_ _ | refine blk_drew ?_ | refine blk_alloc ?_ _)); exact BK138.out)) : gb140 ≠ gb138)); clear BK138; clear HB; have BK138 := n0_; have HB := n1_; have BK140 := n2_; have GW140 := n3_; have GE140 := n4_; have NB138_140 := n5_; have NB140_138 := n6_; clear n0_ n1_ n2_ n3_ n4_ n5_ n6_; clear hb hbox hg; have hnb53 := NB140_138.out; have hnc53 := NB138_140.out; have hcz54_0 : w52.cell? ⟨gb140, 0, none⟩ = some (.int .i64 0) := (blk_cell BK140.out 0).trans rfl; have hcz54_1 : w52.cell? ⟨gb140, 1, none⟩ = some (.int .i64 0) := (blk_cell BK140.out 1).trans rfl; have hfz54_0 := blk_frozen BK140.out 0; have hfz54_1 := blk_frozen BK140.out 1))
                have n0_ : Aside0 (((w52.setCell ⟨gb140, 0, none⟩ (.int .i64 ((rd_T33 l0 (ji34)).f0))).setCell ⟨gb140, 1, none⟩ (.int .i64 ((rd_T33 l0 (ji34)).f1))).heap[gb138]? = some (.cells #[.int .i64 ((rd_T33 l0 x42_2).f0), .int .i64 ((rd_T33 l0 x42_2).f1)] 33 (0, 0))) := ⟨by (with_reducible repeat (first | refine blk_drewN ?_ _ | refine blk_drew ?_ | refine blk_alloc ?_ _)); refine blk_far ?_ NB138_140.out _; (with_reducible repeat (first | refine blk_drewN ?_ _ | refine blk_drew ?_ | refine blk_alloc ?_ _)); refine blk_far ?_ NB138_140.out _; (with_reducible repeat (first | refine blk_drewN ?_ _ | refine blk_drew ?_ | refine blk_alloc ?_ _)); exact BK138.out⟩
                have n1_ : Aside0 (((w52.setCell ⟨gb140, 0, none⟩ (.int .i64 ((rd_T33 l0 (ji34)).f0))).setCell ⟨gb140, 1, none⟩ (.int .i64 ((rd_T33 l0 (ji34)).f1))).heap[gb140]? = some (.cells #[.int .i64 ((rd_T33 l0 (ji34)).f0), .int .i64 ((rd_T33 l0 (ji34)).f1)] 33 (0, 0))) := ⟨by (with_reducible repeat (first | refine blk_drewN ?_ _ | refine blk_drew ?_ | refine blk_alloc ?_ _)); refine blk_put (cs := #[.int .i64 ((rd_T33 l0 (ji34)).f0), .int .i64 0]) ?_ 1 _ rfl; (with_reducible repeat (first | refine blk_drewN ?_ _ | refine blk_drew ?_ | refine blk_alloc ?_ _)); refine blk_put (cs := #[.int .i64 0, .int .i64 0]) ?_ 0 _ rfl; (with_reducible repeat (first | refine blk_drewN ?_ _ | refine blk_drew ?_ | refine blk_alloc ?_ _)); exact BK140.out⟩
                have n2_ : Aside0 (Below w.heap.size w ((w52.setCell ⟨gb140, 0, none⟩ (.int .i64 ((rd_T33 l0 (ji34)).f0))).setCell ⟨gb140, 1, none⟩ (.int .i64 ((rd_T33 l0 (ji34)).f1)))) := ⟨zb⟩
                (try clear BK138)
                (try clear BK140)
                (try clear HB)
                generalize ((w52.setCell ⟨gb140, 0, none⟩ (.int .i64 ((rd_T33 l0 (ji34)).f0))).setCell ⟨gb140, 1, none⟩ (.int .i64 ((rd_T33 l0 (ji34)).f1))) = w55 at n0_ n1_ n2_ ⊢
                have BK138 := n0_
                have BK140 := n1_
                have HB := n2_
                clear n0_ n1_ n2_
                have n0_ := Aside0.mk (blk_drew BK138.out)
                have n1_ := Aside0.mk (blk_drew BK140.out)
                have n2_ := Aside0.mk (below_drew1 HB.out)
                clear BK138
                clear BK140
                clear HB
                have BK138 := n0_
                have BK140 := n1_
                have HB := n2_
                clear n0_ n1_ n2_
                have p141 : 0 ≤ ((ji37) : Int) := of_decide_eq_true (by first | (with_reducible assumption) | assumption)
                have q141 : (ji37) < (l0.length : Int) := of_decide_eq_true (by first | (with_reducible assumption) | assumption)
                obtain ⟨ad141, e141, hx141_0, hx141_1⟩ := at_T33 HR0.out (ji37) p141 q141
                have hw141_1 := hx141_1
                have hw141_0 := hx141_0
                obtain rfl : ad137 = ad141 := (by injection e141)
                replace hx141_0 := zc HB hx141_0
                replace hx141_1 := zc HB hx141_1
                replace p141 := eq_true p141
                replace q141 := eq_true q141
                refine start_ (n := 11) (S := fun w' => w'.cell? ⟨gb138, 0, none⟩ = some (.int .i64 ((rd_T33 l0 x42_2).f0)) ∧ w'.cell? ⟨gb138, 1, none⟩ = some (.int .i64 ((rd_T33 l0 x42_2).f1)) ∧ w'.cell? ⟨gb140, 0, none⟩ = some (.int .i64 ((rd_T33 l0 (ji34)).f0)) ∧ w'.cell? ⟨gb140, 1, none⟩ = some (.int .i64 ((rd_T33 l0 (ji34)).f1)) ∧ w'.cell? (ad137.add (((ji37)).toNat * 2)) = some (.int .i64 ((rd_T33 l0 (ji37)).f0)) ∧ w'.cell? ⟨(ad137.add (((ji37)).toNat * 2)).block, (ad137.add (((ji37)).toNat * 2)).off + 1, none⟩ = some (.int .i64 ((rd_T33 l0 (ji37)).f1))) (ds := []) (zl 11 0) (by kernel_rfl) rfl rfl ⟨(blk_cell BK138.out 0).trans rfl, (blk_cell BK138.out 1).trans rfl, (blk_cell BK140.out 0).trans rfl, (blk_cell BK140.out 1).trans rfl, (zc HB hw141_0), (zc HB hw141_1)⟩ (fun hHeld => ?_); refine with_tabW spec_pgGood.tab20 spec_pgGood.bits20 (fun HT_ HW_ => ?_)
                generalize w55.drew = w56 at BK138 BK140 HB hx141_0 hx141_1 hHeld ⊢
                refine zp 2 56 11 4 HT_ ?_
                refine zp 3 57 11 12 HT_ ?_
                refine zp 4 58 11 28 HT_ ?_
                refine zp 5 59 11 60 HT_ ?_
                refine zp 6 60 11 124 HT_ ?_
                refine zp 7 61 11 252 HT_ ?_
                refine take_ (i := 0) (N := some 54) (v := ?_) (a' := ?_) (zl 11 253) rfl rfl (take_ofW HT_.out HW_.out (by kernel_rfl)) (fun _ _ _ h => h) (Or.inl ⟨by rfl, ?_⟩) hHeld ?_ ?_
                rotate_left
                ·rintro w' ⟨s0, s1, s2, s3, s4, s5⟩
                 go_simp
                 with_reducible rfl
                rotate_left
                ·exact zs
                refine take_ (i := 1) (N := some 55) (v := ?_) (a' := ?_) (zl 11 255) rfl rfl (take_ofW HT_.out HW_.out (by kernel_rfl)) (fun _ _ _ h => h) (Or.inl ⟨by rfl, ?_⟩) hHeld ?_ ?_
                rotate_left
                ·rintro w' ⟨s0, s1, s2, s3, s4, s5⟩
                 go_simp
                 with_reducible rfl
                rotate_left
                ·exact zs
                refine take_ (i := 8) (N := some 62) (v := ?_) (a' := ?_) (zl 11 511) rfl rfl (take_ofW HT_.out HW_.out (by kernel_rfl)) (fun _ _ _ h => h) (Or.inl ⟨by rfl, ?_⟩) hHeld ?_ ?_
                rotate_left
                ·rintro w' ⟨s0, s1, s2, s3, s4, s5⟩
                 go_simp
                 with_reducible rfl
                rotate_left
                ·exact zs
                refine one_ (i := 9) (N := some 63) (zl 11 1023) rfl rfl (one_of HT_.out (by kernel_rfl)) (by decide) (fun K hK => ?_)
                refine goes_ Tryd.func17 (by kernel_rfl) rfl #[.agg #[.int .i64 ((rd_T33 l0 x42_2).f0), .int .i64 ((rd_T33 l0 x42_2).f1)], .agg #[.int .i64 ((rd_T33 l0 (ji34)).f0), .int .i64 ((rd_T33 l0 (ji34)).f1)], .agg #[.int .i64 ((rd_T33 l0 (ji37)).f0), .int .i64 ((rd_T33 l0 (ji37)).f1)]] (by rfl) rfl rfl (by (try simp only [List.map_toArray, List.map_cons, List.map_nil]); first | done | (simp only [hji34, hji37]; rfl) | rfl | (simp only [List.length_drop, List.length_take]; rfl)) ?_
                with_reducible refine (spec_pgTurn.calls ((rd_T33 l0 x42_2).f0) ((rd_T33 l0 x42_2).f1) ((rd_T33 l0 (ji34)).f0) ((rd_T33 l0 (ji34)).f1) ((rd_T33 l0 (ji37)).f0) ((rd_T33 l0 (ji37)).f1) t142 _ A40.out).mono ?_
                rintro e w57 ⟨rfl, hb⟩
                refine ⟨_, rfl, ?_⟩
                have n0_ := Aside0.mk (blk_below (g := gb138) (o := .cells #[.int .i64 ((rd_T33 l0 x42_2).f0), .int .i64 ((rd_T33 l0 x42_2).f1)] 33 (0, 0)) zk hb)
                have n1_ := Aside0.mk (blk_below (g := gb140) (o := .cells #[.int .i64 ((rd_T33 l0 (ji34)).f0), .int .i64 ((rd_T33 l0 (ji34)).f1)] 33 (0, 0)) zk hb)
                have n2_ := Aside0.mk (below_step zb hb)
                clear BK138
                clear BK140
                clear HB
                have BK138 := n0_
                have BK140 := n1_
                have HB := n2_
                clear n0_ n1_ n2_
                (try clear hb)
                (try clear hb2)
                (try clear hk)
                (try clear hi)
                refine hK.out _ _ ⟨(blk_cell BK138.out 0).trans rfl, (blk_cell BK138.out 1).trans rfl, (blk_cell BK140.out 0).trans rfl, (blk_cell BK140.out 1).trans rfl, (zc HB hw141_0), (zc HB hw141_1)⟩ (fun hHeld => ?_)
                clear hK K
                refine norm_ (a' := ?_) ?_ ?_
                rotate_left
                ·show Act.put _ (some 63) _ = _
                 exact zs
                refine zp 10 64 11 2047 HT_ ?_
                refine done_ (done_of HT_.out (by kernel_rfl)) ?_
                try go_wp2
                go_loopg [11] k2 (fun kq v11 w' => ∃ (x11_3 : Int), v11 = .int .i64 x11_3 ∧ Aside0 (spec_pgGood.l3 kq l0 (l0.length : Int) x42_2 x11_3 l0 (l0.length : Int) x42_2 ((rd_T33 l0 x42_2).f0) ((rd_T33 l0 x42_2).f1) ((rd_T33 l0 (ji34)).f0) ((rd_T33 l0 (ji34)).f1) = some r) ∧ Aside0 (kq ≤ k2) ∧ Aside0 (w'.heap[gb138]? = some (.cells #[.int .i64 ((rd_T33 l0 x42_2).f0), .int .i64 ((rd_T33 l0 x42_2).f1)] 33 (0, 0))) ∧ Aside0 (w'.heap[gb140]? = some (.cells #[.int .i64 ((rd_T33 l0 (ji34)).f0), .int .i64 ((rd_T33 l0 (ji34)).f1)] 33 (0, 0))) ∧ Aside0 (Below w.heap.size w w'))
                case atStart => exact ⟨(wrap64 (x42_2 + 2)), (by first | rfl | (simp; done) | (simp [*]; done)), H', ⟨Nat.le_refl _⟩, ⟨zk⟩, ⟨zk⟩, ⟨zb⟩⟩
                case round =>
                 clear H'
                 try clear c1
                 try clear p1
                 try clear q1
                 try clear hx1
                 try clear c2
                 try clear p2
                 try clear c3
                 try clear c4
                 try clear c4b0
                 try clear c5
                 try clear c5b0
                 try clear c6
                 try clear c6b0
                 try clear p6
                 try clear c8
                 try clear c9
                 try clear c9b0
                 try clear c10
                 try clear c10b0
                 try clear c10b1
                 try clear p12
                 try clear q12
                 try clear hx12
                 try clear p13
                 try clear q13
                 try clear hx13
                 try clear p14
                 try clear q14
                 try clear hx14
                 try clear c15
                 try clear c15b0
                 try clear c16
                 try clear c16b0
                 try clear c17
                 try clear c17b0
                 try clear c18
                 try clear c18b0
                 try clear c18b1
                 try clear c18b2
                 try clear c20
                 try clear c24
                 try clear c30
                 try clear c30b0
                 try clear c31
                 try clear c31b0
                 try clear c32
                 try clear c32b0
                 try clear c33
                 try clear c33b0
                 try clear c33b1
                 try clear c33b2
                 try clear c35
                 try clear c35b0
                 try clear c36
                 try clear c36b0
                 try clear c38
                 try clear c38b0
                 try clear c39
                 try clear c39b0
                 try clear c41
                 try clear c41b0
                 try clear c41b1
                 try clear c45
                 try clear c53
                 try clear hcz12_0
                 try clear hcz12_1
                 try clear hcz21_0
                 try clear hcz21_1
                 try clear hcz22_0
                 try clear hcz22_1
                 try clear hcz25_0
                 try clear hcz25_1
                 try clear hcz26_0
                 try clear hcz26_1
                 try clear hcz28_0
                 try clear hcz28_1
                 try clear hcz43_0
                 try clear hcz43_1
                 try clear hcz46_0
                 try clear hcz46_1
                 try clear hcz51_0
                 try clear hcz51_1
                 try clear hcz54_0
                 try clear hcz54_1
                 try clear hfz12_0
                 try clear hfz12_1
                 try clear hfz21_0
                 try clear hfz21_1
                 try clear hfz22_0
                 try clear hfz22_1
                 try clear hfz25_0
                 try clear hfz25_1
                 try clear hfz26_0
                 try clear hfz26_1
                 try clear hfz28_0
                 try clear hfz28_1
                 try clear hfz43_0
                 try clear hfz43_1
                 try clear hfz46_0
                 try clear hfz46_1
                 try clear hfz51_0
                 try clear hfz51_1
                 try clear hfz54_0
                 try clear hfz54_1
                 try clear hx128_0
                 try clear hx128_1
                 try clear hx135_0
                 try clear hx135_1
                 try clear hx137_0
                 try clear hx137_1
                 try clear hx139_0
                 try clear hx139_1
                 try clear hx141_0
                 try clear hx141_1
                 try clear p1
                 try clear p12
                 try clear p128
                 try clear p13
                 try clear p135
                 try clear p137
                 try clear p139
                 try clear p141
                 try clear p2
                 try clear p6
                 try clear q1
                 try clear q12
                 try clear q128
                 try clear q13
                 try clear q135
                 try clear q137
                 try clear q139
                 try clear q14
                 try clear q141
                 obtain ⟨x11_3, rfl, HA, HK3, BK138, BK140, HB⟩ := hrel
                 cases gk with
                 | zero => exact absurd HA.out (by simp [spec_pgGood.l3])
                 | succ k3 =>
                  have H := HA.out
                  clear HA
                  simp only [spec_pgGood.l3] at H
                  have HC58 := Aside0.mk H
                  clear H
                  go_upto_region 23 with (fail)
                  go_cut [77] (fun v77 wc => ∃ (kq : Nat) (x77_57 : Bool), v77 = .bool x77_57 ∧ Aside0 (spec_pgGood.j4 kq l0 (l0.length : Int) x42_2 x11_3 l0 (l0.length : Int) x42_2 x77_57 ((rd_T33 l0 x42_2).f0) ((rd_T33 l0 x42_2).f1) ((rd_T33 l0 (ji34)).f0) ((rd_T33 l0 (ji34)).f1) = some r) ∧ Aside0 (kq ≤ k3) ∧ Aside0 (wc.heap[gb138]? = some (.cells #[.int .i64 ((rd_T33 l0 x42_2).f0), .int .i64 ((rd_T33 l0 x42_2).f1)] 33 (0, 0))) ∧ Aside0 (wc.heap[gb140]? = some (.cells #[.int .i64 ((rd_T33 l0 (ji34)).f0), .int .i64 ((rd_T33 l0 (ji34)).f1)] 33 (0, 0))) ∧ Aside0 (Below w.heap.size w wc))
                  case first =>
                   have H := HC58.out
                   clear HC58
                   by_cases c59 : x11_3 < (l0.length : Int)
                   ·rw [if_pos c59] at H
                    have c59b0 : decide (x11_3 < (l0.length : Int)) = true := decide_eq_true c59
                    clear c59
                    (first | rw [c59b0] | (simp only [i64_w, i32_w]; rw [c59b0]) | skip)
                    have H' := Aside0.mk H
                    clear H
                    go_wp2
                    go_meet
                    case rel => exact ⟨_, (decide ((wrap64 (x11_3 - x42_2)) < (wrap64 ((l0.length : Int) - 1)))), (by first | rfl | (simp; done) | (simp [*]; done)), H', ⟨by have := HK1.out; have := HK2.out; have := HK3.out; first | omega | exact Nat.le_refl _⟩, ⟨zk⟩, ⟨zk⟩, ⟨zb⟩⟩
                   ·rw [if_neg c59] at H
                    have c59b0 : decide (x11_3 < (l0.length : Int)) = false := decide_eq_false c59
                    clear c59
                    (first | rw [c59b0] | (simp only [i64_w, i32_w]; rw [c59b0]) | skip)
                    have H' := Aside0.mk H
                    clear H
                    go_wp2
                    go_meet
                    case rel => exact ⟨_, (false), (by first | rfl | (simp; done) | (simp [*]; done)), H', ⟨by have := HK1.out; have := HK2.out; have := HK3.out; first | omega | exact Nat.le_refl _⟩, ⟨zk⟩, ⟨zk⟩, ⟨zb⟩⟩
                  case rest =>
                   clear HC58
                   try clear c1
                   try clear p1
                   try clear q1
                   try clear hx1
                   try clear c2
                   try clear p2
                   try clear c3
                   try clear c4
                   try clear c4b0
                   try clear c5
                   try clear c5b0
                   try clear c6
                   try clear c6b0
                   try clear p6
                   try clear c8
                   try clear c9
                   try clear c9b0
                   try clear c10
                   try clear c10b0
                   try clear c10b1
                   try clear p12
                   try clear q12
                   try clear hx12
                   try clear p13
                   try clear q13
                   try clear hx13
                   try clear p14
                   try clear q14
                   try clear hx14
                   try clear c15
                   try clear c15b0
                   try clear c16
                   try clear c16b0
                   try clear c17
                   try clear c17b0
                   try clear c18
                   try clear c18b0
                   try clear c18b1
                   try clear c18b2
                   try clear c20
                   try clear c24
                   try clear c30
                   try clear c30b0
                   try clear c31
                   try clear c31b0
                   try clear c32
                   try clear c32b0
                   try clear c33
                   try clear c33b0
                   try clear c33b1
                   try clear c33b2
                   try clear c35
                   try clear c35b0
                   try clear c36
                   try clear c36b0
                   try clear c38
                   try clear c38b0
                   try clear c39
                   try clear c39b0
                   try clear c41
                   try clear c41b0
                   try clear c41b1
                   try clear c45
                   try clear c53
                   try clear c59
                   try clear c59b0
                   try clear hcz12_0
                   try clear hcz12_1
                   try clear hcz21_0
                   try clear hcz21_1
                   try clear hcz22_0
                   try clear hcz22_1
                   try clear hcz25_0
                   try clear hcz25_1
                   try clear hcz26_0
                   try clear hcz26_1
                   try clear hcz28_0
                   try clear hcz28_1
                   try clear hcz43_0
                   try clear hcz43_1
                   try clear hcz46_0
                   try clear hcz46_1
                   try clear hcz51_0
                   try clear hcz51_1
                   try clear hcz54_0
                   try clear hcz54_1
                   try clear hfz12_0
                   try clear hfz12_1
                   try clear hfz21_0
                   try clear hfz21_1
                   try clear hfz22_0
                   try clear hfz22_1
                   try clear hfz25_0
                   try clear hfz25_1
                   try clear hfz26_0
                   try clear hfz26_1
                   try clear hfz28_0
                   try clear hfz28_1
                   try clear hfz43_0
                   try clear hfz43_1
                   try clear hfz46_0
                   try clear hfz46_1
                   try clear hfz51_0
                   try clear hfz51_1
                   try clear hfz54_0
                   try clear hfz54_1
                   try clear hx128_0
                   try clear hx128_1
                   try clear hx135_0
                   try clear hx135_1
                   try clear hx137_0
                   try clear hx137_1
                   try clear hx139_0
                   try clear hx139_1
                   try clear hx141_0
                   try clear hx141_1
                   try clear p1
                   try clear p12
                   try clear p128
                   try clear p13
                   try clear p135
                   try clear p137
                   try clear p139
                   try clear p14
                   try clear p141
                   try clear p2
                   try clear p6
                   try clear q1
                   try clear q12
                   try clear q128
                   try clear q13
                   try clear q135
                   try clear q137
                   try clear q139
                   try clear q14
                   try clear q141
                   obtain ⟨kq, x77_57, rfl, HA, HJ57, BK138, BK140, HB⟩ := hcut
                   cases kq with
                   | zero => exact absurd HA.out (by simp [spec_pgGood.j4])
                   | succ kj57 =>
                    have H := HA.out
                    clear HA
                    simp only [spec_pgGood.j4] at H
                    by_cases c60 : x77_57 = true
                    ·subst c60
                     have H1 : (if 0 ≤ x11_3 then (if x11_3 < (l0.length : Int) then (if (l0.length : Int) = 0 then (none) else (if 0 ≤ (Int.tmod (wrap64 (x11_3 + 1)) (l0.length : Int)) then (if (Int.tmod (wrap64 (x11_3 + 1)) (l0.length : Int)) < (l0.length : Int) then ((spec_pgMeet.f kj57 ((rd_T33 l0 x42_2).f0) ((rd_T33 l0 x42_2).f1) ((rd_T33 l0 (ji34)).f0) ((rd_T33 l0 (ji34)).f1) ((rd_T33 l0 x11_3).f0) ((rd_T33 l0 x11_3).f1) ((rd_T33 l0 (Int.tmod (wrap64 (x11_3 + 1)) (l0.length : Int))).f0) ((rd_T33 l0 (Int.tmod (wrap64 (x11_3 + 1)) (l0.length : Int))).f1)).bind fun t145 => (if t145 = true then (some false) else (spec_pgGood.l3 kj57 l0 (l0.length : Int) x42_2 (wrap64 (x11_3 + 1)) l0 (l0.length : Int) x42_2 ((rd_T33 l0 x42_2).f0) ((rd_T33 l0 x42_2).f1) ((rd_T33 l0 (ji34)).f0) ((rd_T33 l0 (ji34)).f1)))) else (none)) else (none))) else (none)) else (none)) = some r := by rw [if_pos rfl] at H; exact H
                     clear H
                     have H := H1
                     clear H1
                     by_cases c61 : 0 ≤ x11_3
                     ·rw [if_pos c61] at H
                      have c61b0 : decide (0 ≤ x11_3) = true := decide_eq_true c61
                      clear c61
                      by_cases c62 : x11_3 < (l0.length : Int)
                      ·rw [if_pos c62] at H
                       have c62b0 : decide (x11_3 < (l0.length : Int)) = true := decide_eq_true c62
                       clear c62
                       by_cases c63 : (l0.length : Int) = 0
                       ·rw [if_pos c63] at H
                        exact absurd H (by simp)
                       ·rw [if_neg c63] at H
                        have c63b0 : ((l0.length : Int) == 0) = false := beq_eq_false_iff_ne.mpr c63
                        have c63b1 : ((l0.length : Int) != 0) = true := bne_iff_ne.mpr c63
                        have c63b2 : ¬ (l0 = []) := fun h_ => c63 (by rw [h_]; rfl)
                        obtain ⟨ji64, hji64⟩ : ∃ j_ : Int, (Int.tmod (wrap64 (x11_3 + 1)) (l0.length : Int)) = j_ := ⟨_, rfl⟩
                        replace H : (if 0 ≤ (ji64) then (if (ji64) < (l0.length : Int) then ((spec_pgMeet.f kj57 ((rd_T33 l0 x42_2).f0) ((rd_T33 l0 x42_2).f1) ((rd_T33 l0 (ji34)).f0) ((rd_T33 l0 (ji34)).f1) ((rd_T33 l0 x11_3).f0) ((rd_T33 l0 x11_3).f1) ((rd_T33 l0 (ji64)).f0) ((rd_T33 l0 (ji64)).f1)).bind fun t145 => (if t145 = true then (some false) else (spec_pgGood.l3 kj57 l0 (l0.length : Int) x42_2 (wrap64 (x11_3 + 1)) l0 (l0.length : Int) x42_2 ((rd_T33 l0 x42_2).f0) ((rd_T33 l0 x42_2).f1) ((rd_T33 l0 (ji34)).f0) ((rd_T33 l0 (ji34)).f1)))) else (none)) else (none)) = some r := by first | (rw [hji64] at H; exact H) | (simp only [hji64] at H ⊢; exact H)
                        by_cases c65 : 0 ≤ (ji64)
                        ·rw [if_pos c65] at H
                         have c65b0 : decide (0 ≤ (ji64)) = true := decide_eq_true c65
                         clear c65
                         by_cases c66 : (ji64) < (l0.length : Int)
                         ·rw [if_pos c66] at H
                          have c66b0 : decide ((ji64) < (l0.length : Int)) = true := decide_eq_true c66
                          clear c66
                          replace H := Option.bind_eq_some_iff.mp H
                          obtain ⟨t145, A670, H⟩ := H
                          replace H : (if t145 = true then (some false) else (spec_pgGood.l3 kj57 l0 (l0.length : Int) x42_2 (wrap64 (x11_3 + 1)) l0 (l0.length : Int) x42_2 ((rd_T33 l0 x42_2).f0) ((rd_T33 l0 x42_2).f1) ((rd_T33 l0 (ji34)).f0) ((rd_T33 l0 (ji34)).f1))) = some r := H
                          have A67 := Aside0.mk A670
                          clear A670
                          by_cases c68 : t145 = true
                          ·subst c68
                           have H1 : (some false) = some r := by rw [if_pos rfl] at H; exact H
                           clear H
                           have H := H1
                           clear H1
                           obtain rfl := Option.some.inj H
                           try go_wp2
                           have n0_ := Aside0.mk (blk_drew BK138.out)
                           have n1_ := Aside0.mk (blk_drew BK140.out)
                           have n2_ := Aside0.mk (below_drew1 HB.out)
                           clear BK138
                           clear BK140
                           clear HB
                           have BK138 := n0_
                           have BK140 := n1_
                           have HB := n2_
                           clear n0_ n1_ n2_
                           have p143 : 0 ≤ (x11_3 : Int) := of_decide_eq_true (by first | (with_reducible assumption) | assumption)
                           have q143 : x11_3 < (l0.length : Int) := of_decide_eq_true (by first | (with_reducible assumption) | assumption)
                           obtain ⟨ad143, e143, hx143_0, hx143_1⟩ := at_T33 HR0.out x11_3 p143 q143
                           have hw143_1 := hx143_1
                           have hw143_0 := hx143_0
                           obtain rfl : ad137 = ad143 := (by injection e143)
                           replace hx143_0 := zc HB hx143_0
                           replace hx143_1 := zc HB hx143_1
                           replace p143 := eq_true p143
                           replace q143 := eq_true q143
                           have p144 : 0 ≤ ((ji64) : Int) := of_decide_eq_true (by first | (with_reducible assumption) | assumption)
                           have q144 : (ji64) < (l0.length : Int) := of_decide_eq_true (by first | (with_reducible assumption) | assumption)
                           obtain ⟨ad144, e144, hx144_0, hx144_1⟩ := at_T33 HR0.out (ji64) p144 q144
                           have hw144_1 := hx144_1
                           have hw144_0 := hx144_0
                           obtain rfl : ad137 = ad144 := (by injection e144)
                           replace hx144_0 := zc HB hx144_0
                           replace hx144_1 := zc HB hx144_1
                           replace p144 := eq_true p144
                           replace q144 := eq_true q144
                           refine start_ (n := 14) (S := fun w' => w'.cell? ⟨gb138, 0, none⟩ = some (.int .i64 ((rd_T33 l0 x42_2).f0)) ∧ w'.cell? ⟨gb138, 1, none⟩ = some (.int .i64 ((rd_T33 l0 x42_2).f1)) ∧ w'.cell? ⟨gb140, 0, none⟩ = some (.int .i64 ((rd_T33 l0 (ji34)).f0)) ∧ w'.cell? ⟨gb140, 1, none⟩ = some (.int .i64 ((rd_T33 l0 (ji34)).f1)) ∧ w'.cell? (ad137.add ((x11_3).toNat * 2)) = some (.int .i64 ((rd_T33 l0 x11_3).f0)) ∧ w'.cell? ⟨(ad137.add ((x11_3).toNat * 2)).block, (ad137.add ((x11_3).toNat * 2)).off + 1, none⟩ = some (.int .i64 ((rd_T33 l0 x11_3).f1)) ∧ w'.cell? (ad137.add (((ji64)).toNat * 2)) = some (.int .i64 ((rd_T33 l0 (ji64)).f0)) ∧ w'.cell? ⟨(ad137.add (((ji64)).toNat * 2)).block, (ad137.add (((ji64)).toNat * 2)).off + 1, none⟩ = some (.int .i64 ((rd_T33 l0 (ji64)).f1))) (ds := []) (zl 14 0) (by kernel_rfl) rfl rfl ⟨(blk_cell BK138.out 0).trans rfl, (blk_cell BK138.out 1).trans rfl, (blk_cell BK140.out 0).trans rfl, (blk_cell BK140.out 1).trans rfl, (zc HB hw143_0), (zc HB hw143_1), (zc HB hw144_0), (zc HB hw144_1)⟩ (fun hHeld => ?_); refine with_tabW spec_pgGood.tab25 spec_pgGood.bits25 (fun HT_ HW_ => ?_)
                           generalize wc.drew = w69 at BK138 BK140 HB hx143_0 hx143_1 hx144_0 hx144_1 hHeld ⊢
                           refine zp 2 82 14 4 HT_ ?_
                           refine zp 3 83 14 12 HT_ ?_
                           refine zp 4 84 14 28 HT_ ?_
                           refine zp 6 86 14 92 HT_ ?_
                           refine zp 7 87 14 220 HT_ ?_
                           refine zp 8 88 14 476 HT_ ?_
                           refine zp 9 89 14 988 HT_ ?_
                           refine zp 10 90 14 2012 HT_ ?_
                           refine zp 11 91 14 4060 HT_ ?_
                           refine take_ (i := 0) (N := some 80) (v := ?_) (a' := ?_) (zl 14 4061) rfl rfl (take_ofW HT_.out HW_.out (by kernel_rfl)) (fun _ _ _ h => h) (Or.inl ⟨by rfl, ?_⟩) hHeld ?_ ?_
                           rotate_left
                           ·rintro w' ⟨s0, s1, s2, s3, s4, s5, s6, s7⟩
                            go_simp
                            with_reducible rfl
                           rotate_left
                           ·exact zs
                           refine take_ (i := 1) (N := some 81) (v := ?_) (a' := ?_) (zl 14 4063) rfl rfl (take_ofW HT_.out HW_.out (by kernel_rfl)) (fun _ _ _ h => h) (Or.inl ⟨by rfl, ?_⟩) hHeld ?_ ?_
                           rotate_left
                           ·rintro w' ⟨s0, s1, s2, s3, s4, s5, s6, s7⟩
                            go_simp
                            with_reducible rfl
                           rotate_left
                           ·exact zs
                           refine take_ (i := 5) (N := some 85) (v := ?_) (a' := ?_) (zl 14 4095) rfl rfl (take_ofW HT_.out HW_.out (by kernel_rfl)) (fun _ _ _ h => h) (Or.inl ⟨by rfl, ?_⟩) hHeld ?_ ?_
                           rotate_left
                           ·rintro w' ⟨s0, s1, s2, s3, s4, s5, s6, s7⟩
                            go_simp
                            with_reducible rfl
                           rotate_left
                           ·exact zs
                           refine take_ (i := 12) (N := some 92) (v := ?_) (a' := ?_) (zl 14 8191) rfl rfl (take_ofW HT_.out HW_.out (by kernel_rfl)) (fun _ _ _ h => h) (Or.inl ⟨by rfl, ?_⟩) hHeld ?_ ?_
                           rotate_left
                           ·rintro w' ⟨s0, s1, s2, s3, s4, s5, s6, s7⟩
                            go_simp
                            with_reducible rfl
                           rotate_left
                           ·exact zs
                           refine one_ (i := 13) (N := some 93) (zl 14 16383) rfl rfl (one_of HT_.out (by kernel_rfl)) (by decide) (fun K hK => ?_)
                           refine goes_ Tryd.func18 (by kernel_rfl) rfl #[.agg #[.int .i64 ((rd_T33 l0 x42_2).f0), .int .i64 ((rd_T33 l0 x42_2).f1)], .agg #[.int .i64 ((rd_T33 l0 (ji34)).f0), .int .i64 ((rd_T33 l0 (ji34)).f1)], .agg #[.int .i64 ((rd_T33 l0 x11_3).f0), .int .i64 ((rd_T33 l0 x11_3).f1)], .agg #[.int .i64 ((rd_T33 l0 (ji64)).f0), .int .i64 ((rd_T33 l0 (ji64)).f1)]] (by rfl) rfl rfl (by (try simp only [List.map_toArray, List.map_cons, List.map_nil]); first | done | (simp only [hji34, hji64]; rfl) | rfl | (simp only [List.length_drop, List.length_take]; rfl)) ?_
                           with_reducible refine (spec_pgMeet.calls kj57 ((rd_T33 l0 x42_2).f0) ((rd_T33 l0 x42_2).f1) ((rd_T33 l0 (ji34)).f0) ((rd_T33 l0 (ji34)).f1) ((rd_T33 l0 x11_3).f0) ((rd_T33 l0 x11_3).f1) ((rd_T33 l0 (ji64)).f0) ((rd_T33 l0 (ji64)).f1) true _ A67.out).mono ?_
                           rintro e w70 ⟨rfl, hb⟩
                           refine ⟨_, rfl, ?_⟩
                           have n0_ := Aside0.mk (blk_below (g := gb138) (o := .cells #[.int .i64 ((rd_T33 l0 x42_2).f0), .int .i64 ((rd_T33 l0 x42_2).f1)] 33 (0, 0)) zk hb)
                           have n1_ := Aside0.mk (blk_below (g := gb140) (o := .cells #[.int .i64 ((rd_T33 l0 (ji34)).f0), .int .i64 ((rd_T33 l0 (ji34)).f1)] 33 (0, 0)) zk hb)
                           have n2_ := Aside0.mk (below_step zb hb)
                           clear BK138
                           clear BK140
                           clear HB
                           have BK138 := n0_
                           have BK140 := n1_
                           have HB := n2_
                           clear n0_ n1_ n2_
                           (try clear hb)
                           (try clear hb2)
                           (try clear hk)
                           (try clear hi)
                           refine hK.out _ _ ⟨(blk_cell BK138.out 0).trans rfl, (blk_cell BK138.out 1).trans rfl, (blk_cell BK140.out 0).trans rfl, (blk_cell BK140.out 1).trans rfl, (zc HB hw143_0), (zc HB hw143_1), (zc HB hw144_0), (zc HB hw144_1)⟩ (fun hHeld => ?_)
                           clear hK K
                           refine norm_ (a' := ?_) ?_ ?_
                           rotate_left
                           ·show Act.put _ (some 93) _ = _
                            exact zs
                           refine done_ (done_of HT_.out (by kernel_rfl)) ?_
                           try go_wp2
                           go_ret
                           exact ⟨by first | rfl | (simp [errW_none, errW_some] <;> rfl) | (simp only [← hji34, ← hji37, ← hji64]; first | rfl | (simp [errW_none, errW_some] <;> rfl)) | (simp [*, errW_none, errW_some] <;> rfl), zb⟩
                          ·replace c68 := Bool.eq_false_iff.mpr c68
                           subst c68
                           have H1 : (spec_pgGood.l3 kj57 l0 (l0.length : Int) x42_2 (wrap64 (x11_3 + 1)) l0 (l0.length : Int) x42_2 ((rd_T33 l0 x42_2).f0) ((rd_T33 l0 x42_2).f1) ((rd_T33 l0 (ji34)).f0) ((rd_T33 l0 (ji34)).f1)) = some r := by rw [if_neg (show ¬ (false = true) by decide)] at H; exact H
                           clear H
                           have H := H1
                           clear H1
                           have H' := Aside0.mk H
                           clear H
                           try go_wp2
                           have n0_ := Aside0.mk (blk_drew BK138.out)
                           have n1_ := Aside0.mk (blk_drew BK140.out)
                           have n2_ := Aside0.mk (below_drew1 HB.out)
                           clear BK138
                           clear BK140
                           clear HB
                           have BK138 := n0_
                           have BK140 := n1_
                           have HB := n2_
                           clear n0_ n1_ n2_
                           have p143 : 0 ≤ (x11_3 : Int) := of_decide_eq_true (by first | (with_reducible assumption) | assumption)
                           have q143 : x11_3 < (l0.length : Int) := of_decide_eq_true (by first | (with_reducible assumption) | assumption)
                           obtain ⟨ad143, e143, hx143_0, hx143_1⟩ := at_T33 HR0.out x11_3 p143 q143
                           have hw143_1 := hx143_1
                           have hw143_0 := hx143_0
                           obtain rfl : ad137 = ad143 := (by injection e143)
                           replace hx143_0 := zc HB hx143_0
                           replace hx143_1 := zc HB hx143_1
                           replace p143 := eq_true p143
                           replace q143 := eq_true q143
                           have p144 : 0 ≤ ((ji64) : Int) := of_decide_eq_true (by first | (with_reducible assumption) | assumption)
                           have q144 : (ji64) < (l0.length : Int) := of_decide_eq_true (by first | (with_reducible assumption) | assumption)
                           obtain ⟨ad144, e144, hx144_0, hx144_1⟩ := at_T33 HR0.out (ji64) p144 q144
                           have hw144_1 := hx144_1
                           have hw144_0 := hx144_0
                           obtain rfl : ad137 = ad144 := (by injection e144)
                           replace hx144_0 := zc HB hx144_0
                           replace hx144_1 := zc HB hx144_1
                           replace p144 := eq_true p144
                           replace q144 := eq_true q144
                           refine start_ (n := 14) (S := fun w' => w'.cell? ⟨gb138, 0, none⟩ = some (.int .i64 ((rd_T33 l0 x42_2).f0)) ∧ w'.cell? ⟨gb138, 1, none⟩ = some (.int .i64 ((rd_T33 l0 x42_2).f1)) ∧ w'.cell? ⟨gb140, 0, none⟩ = some (.int .i64 ((rd_T33 l0 (ji34)).f0)) ∧ w'.cell? ⟨gb140, 1, none⟩ = some (.int .i64 ((rd_T33 l0 (ji34)).f1)) ∧ w'.cell? (ad137.add ((x11_3).toNat * 2)) = some (.int .i64 ((rd_T33 l0 x11_3).f0)) ∧ w'.cell? ⟨(ad137.add ((x11_3).toNat * 2)).block, (ad137.add ((x11_3).toNat * 2)).off + 1, none⟩ = some (.int .i64 ((rd_T33 l0 x11_3).f1)) ∧ w'.cell? (ad137.add (((ji64)).toNat * 2)) = some (.int .i64 ((rd_T33 l0 (ji64)).f0)) ∧ w'.cell? ⟨(ad137.add (((ji64)).toNat * 2)).block, (ad137.add (((ji64)).toNat * 2)).off + 1, none⟩ = some (.int .i64 ((rd_T33 l0 (ji64)).f1))) (ds := []) (zl 14 0) (by kernel_rfl) rfl rfl ⟨(blk_cell BK138.out 0).trans rfl, (blk_cell BK138.out 1).trans rfl, (blk_cell BK140.out 0).trans rfl, (blk_cell BK140.out 1).trans rfl, (zc HB hw143_0), (zc HB hw143_1), (zc HB hw144_0), (zc HB hw144_1)⟩ (fun hHeld => ?_); refine with_tabW spec_pgGood.tab25 spec_pgGood.bits25 (fun HT_ HW_ => ?_)
                           generalize wc.drew = w71 at BK138 BK140 HB hx143_0 hx143_1 hx144_0 hx144_1 hHeld ⊢
                           refine zp 2 82 14 4 HT_ ?_
                           refine zp 3 83 14 12 HT_ ?_
                           refine zp 4 84 14 28 HT_ ?_
                           refine zp 6 86 14 92 HT_ ?_
                           refine zp 7 87 14 220 HT_ ?_
                           refine zp 8 88 14 476 HT_ ?_
                           refine zp 9 89 14 988 HT_ ?_
                           refine zp 10 90 14 2012 HT_ ?_
                           refine zp 11 91 14 4060 HT_ ?_
                           refine take_ (i := 0) (N := some 80) (v := ?_) (a' := ?_) (zl 14 4061) rfl rfl (take_ofW HT_.out HW_.out (by kernel_rfl)) (fun _ _ _ h => h) (Or.inl ⟨by rfl, ?_⟩) hHeld ?_ ?_
                           rotate_left
                           ·rintro w' ⟨s0, s1, s2, s3, s4, s5, s6, s7⟩
                            go_simp
                            with_reducible rfl
                           rotate_left
                           ·exact zs
                           refine take_ (i := 1) (N := some 81) (v := ?_) (a' := ?_) (zl 14 4063) rfl rfl (take_ofW HT_.out HW_.out (by kernel_rfl)) (fun _ _ _ h => h) (Or.inl ⟨by rfl, ?_⟩) hHeld ?_ ?_
                           rotate_left
                           ·rintro w' ⟨s0, s1, s2, s3, s4, s5, s6, s7⟩
                            go_simp
                            with_reducible rfl
                           rotate_left
                           ·exact zs
                           refine take_ (i := 5) (N := some 85) (v := ?_) (a' := ?_) (zl 14 4095) rfl rfl (take_ofW HT_.out HW_.out (by kernel_rfl)) (fun _ _ _ h => h) (Or.inl ⟨by rfl, ?_⟩) hHeld ?_ ?_
                           rotate_left
                           ·rintro w' ⟨s0, s1, s2, s3, s4, s5, s6, s7⟩
                            go_simp
                            with_reducible rfl
                           rotate_left
                           ·exact zs
                           refine take_ (i := 12) (N := some 92) (v := ?_) (a' := ?_) (zl 14 8191) rfl rfl (take_ofW HT_.out HW_.out (by kernel_rfl)) (fun _ _ _ h => h) (Or.inl ⟨by rfl, ?_⟩) hHeld ?_ ?_
                           rotate_left
                           ·rintro w' ⟨s0, s1, s2, s3, s4, s5, s6, s7⟩
                            go_simp
                            with_reducible rfl
                           rotate_left
                           ·exact zs
                           refine one_ (i := 13) (N := some 93) (zl 14 16383) rfl rfl (one_of HT_.out (by kernel_rfl)) (by decide) (fun K hK => ?_)
                           refine goes_ Tryd.func18 (by kernel_rfl) rfl #[.agg #[.int .i64 ((rd_T33 l0 x42_2).f0), .int .i64 ((rd_T33 l0 x42_2).f1)], .agg #[.int .i64 ((rd_T33 l0 (ji34)).f0), .int .i64 ((rd_T33 l0 (ji34)).f1)], .agg #[.int .i64 ((rd_T33 l0 x11_3).f0), .int .i64 ((rd_T33 l0 x11_3).f1)], .agg #[.int .i64 ((rd_T33 l0 (ji64)).f0), .int .i64 ((rd_T33 l0 (ji64)).f1)]] (by rfl) rfl rfl (by (try simp only [List.map_toArray, List.map_cons, List.map_nil]); first | done | (simp only [hji34, hji64]; rfl) | rfl | (simp only [List.length_drop, List.length_take]; rfl)) ?_
                           with_reducible refine (spec_pgMeet.calls kj57 ((rd_T33 l0 x42_2).f0) ((rd_T33 l0 x42_2).f1) ((rd_T33 l0 (ji34)).f0) ((rd_T33 l0 (ji34)).f1) ((rd_T33 l0 x11_3).f0) ((rd_T33 l0 x11_3).f1) ((rd_T33 l0 (ji64)).f0) ((rd_T33 l0 (ji64)).f1) false _ A67.out).mono ?_
                           rintro e w72 ⟨rfl, hb⟩
                           refine ⟨_, rfl, ?_⟩
                           have n0_ := Aside0.mk (blk_below (g := gb138) (o := .cells #[.int .i64 ((rd_T33 l0 x42_2).f0), .int .i64 ((rd_T33 l0 x42_2).f1)] 33 (0, 0)) zk hb)
                           have n1_ := Aside0.mk (blk_below (g := gb140) (o := .cells #[.int .i64 ((rd_T33 l0 (ji34)).f0), .int .i64 ((rd_T33 l0 (ji34)).f1)] 33 (0, 0)) zk hb)
                           have n2_ := Aside0.mk (below_step zb hb)
                           clear BK138
                           clear BK140
                           clear HB
                           have BK138 := n0_
                           have BK140 := n1_
                           have HB := n2_
                           clear n0_ n1_ n2_
                           (try clear hb)
                           (try clear hb2)
                           (try clear hk)
                           (try clear hi)
                           refine hK.out _ _ ⟨(blk_cell BK138.out 0).trans rfl, (blk_cell BK138.out 1).trans rfl, (blk_cell BK140.out 0).trans rfl, (blk_cell BK140.out 1).trans rfl, (zc HB hw143_0), (zc HB hw143_1), (zc HB hw144_0), (zc HB hw144_1)⟩ (fun hHeld => ?_)
                           clear hK K
                           refine norm_ (a' := ?_) ?_ ?_
                           rotate_left
                           ·show Act.put _ (some 93) _ = _
                            exact zs
                           refine done_ (done_of HT_.out (by kernel_rfl)) ?_
                           try go_wp2
                           go_roundg kj57
                           case measure => have := HK1.out; have := HK2.out; have := HK3.out; have := HJ57.out; omega
                           case rel => exact ⟨(wrap64 (x11_3 + 1)), (by first | rfl | (simp; done) | (simp [*]; done)), H', ⟨by have := HK1.out; have := HK2.out; have := HK3.out; have := HJ57.out; omega⟩, ⟨zk⟩, ⟨zk⟩, ⟨zb⟩⟩
                         ·rw [if_neg c66] at H
                          exact absurd H (by simp)
                        ·rw [if_neg c65] at H
                         exact absurd H (by simp)
                      ·rw [if_neg c62] at H
                       exact absurd H (by simp)
                     ·rw [if_neg c61] at H
                      exact absurd H (by simp)
                    ·replace c60 := Bool.eq_false_iff.mpr c60
                     subst c60
                     have H1 : (spec_pgGood.l2 kj57 l0 (l0.length : Int) l0 (l0.length : Int) (wrap64 (x42_2 + 1))) = some r := by rw [if_neg (show ¬ (false = true) by decide)] at H; exact H
                     clear H
                     have H := H1
                     clear H1
                     have H' := Aside0.mk H
                     clear H
                     go_wp2
                     go_roundg kj57
                     case measure => have := HK1.out; have := HK2.out; have := HK3.out; have := HJ57.out; omega
                     case rel => exact ⟨(wrap64 (x42_2 + 1)), (by first | rfl | (simp; done) | (simp [*]; done)), H', ⟨by have := HK1.out; have := HK2.out; have := HK3.out; have := HJ57.out; omega⟩, ⟨zb⟩⟩
              ·rw [if_neg c39] at H
               exact absurd H (by simp)
             ·rw [if_neg c38] at H
              exact absurd H (by simp)
            ·rw [if_neg c36] at H
             exact absurd H (by simp)
           ·rw [if_neg c35] at H
            exact absurd H (by simp)
         ·rw [if_neg c32] at H
          exact absurd H (by simp)
        ·rw [if_neg c31] at H
         exact absurd H (by simp)
       ·rw [if_neg c30] at H
        have c30b0 : decide (x42_2 < (l0.length : Int)) = false := decide_eq_false c30
        clear c30
        obtain rfl := Option.some.inj H
        go_wp2
        go_ret
        exact ⟨by first | rfl | (simp [errW_none, errW_some] <;> rfl) | (simp [*, errW_none, errW_some] <;> rfl), zb⟩
 ·replace c3 := Bool.eq_false_iff.mpr c3
  subst c3
  have H1 : (some false) = some r := by rw [if_neg (show ¬ (false = true) by decide)] at H; exact H
  clear H
  have H := H1
  clear H1
  obtain rfl := Option.some.inj H
  go_enter Tryd.func9, Tryd.ntmps9
  go_wp2_with (first | ((with_reducible refine gate_callee (f := 15) rfl ?_); refine goesL_ (some 15) rfl rfl Tryd.func15 (by kernel_rfl) rfl #[.int .i64 (l0.length : Int), .int .i64 3, .int .i64 10] rfl zn ?_; (with_reducible refine (spec_l1In.calls (l0.length : Int) 3 10 false _ A2.out).mono ?_); rintro e w' ⟨rfl, ⟨nd, rfl⟩⟩; refine ⟨_, rfl, ?_⟩))
  go_ret
  exact ⟨by first | rfl | (simp [errW_none, errW_some] <;> rfl) | (simp [*, errW_none, errW_some] <;> rfl), zb⟩
end Go.Proofs.YtphpdfcblchpnaaDoor.Q
namespace Go.Proofs.YtphpdfcblchpnaaDoor.Q
open Go.RowKit Go.Proofs.YtphpdfcblchpnaaDoorW.PrintWords Go.Proofs.YtphpdfcblchpnaaDoorW.PrintLast Go.Proofs.YtphpdfcblchpnaaDoorW.PrintMore
attribute [local go_sem] max2_int min2_int max_two min_two max_three min_three max_four min_four   -- for this text's walks alone
set_option linter.unusedVariables false
set_option linter.unusedSimpArgs false
def spec_l1Num.f : Nat → Int → Option (ByteArray)
 | 0, _ => none
 | k + 1, a0 => if a0 < 10 then (some (strOfNums (([(wrap64 (48 + a0)) % 256] : List Int)))) else ((spec_l1Num.f k (wrap64 (Int.tdiv a0 10))).bind fun t149 => ((some (([(wrap64 (48 + (Int.tmod a0 10))) % 256] : List Int) : List Int)).bind fun y150 => (if t149.size + (strOfNums y150).size ≤ 9223372036854775807 then (some (t149 ++ (strOfNums y150))) else (none))))
def spec_l1Num.T3 : Bool × List (List Nat × List Nat) := (true, [([], []), ([0], [0]), ([1], [1]), ([], []), ([3], [3]), ([4], [4]), ([5], [5]), ([6], [6]), ([7], [7]), ([2, 8], [2, 8]), ([9, 2, 0, 1, 2, 3, 4, 5, 6, 7, 8, 9], [9])])
def spec_l1Num.B3 : List Nat := [0, 1, 3, 0, 8, 24, 56, 120, 248, 511, 1023]
theorem spec_l1Num.tab3 : rtab .any (opsOf Tryd.f30 3) = spec_l1Num.T3 := by kernel_rfl
theorem spec_l1Num.bits3 : waitsOk spec_l1Num.T3.2 spec_l1Num.B3 = true := by kernel_rfl
set_option maxHeartbeats 8000000 in
set_option maxRecDepth 100000 in
theorem spec_l1Num.calls (k : Nat) : ∀ (a0 : Int) (r : ByteArray) (w : World) (h : spec_l1Num.f k a0 = some r),
  Calls Tryd.prog 30 #[.int .i64 a0] w fun e w' => e = .returned (.string r) ∧ Below w.heap.size w w' := by
 induction k using Nat.strongRecOn with
 | _ k ih =>
 intro a0 r w h
 cases k with
 | zero => exact absurd h (by simp [spec_l1Num.f])
 | succ k =>
 simp only [spec_l1Num.f] at h
 have HB := Aside0.mk (Below.refl w.heap.size w)
 have H : (if a0 < 10 then (some (strOfNums (([(wrap64 (48 + a0)) % 256] : List Int)))) else ((spec_l1Num.f k (wrap64 (Int.tdiv a0 10))).bind fun t149 => ((some (([(wrap64 (48 + (Int.tmod a0 10))) % 256] : List Int) : List Int)).bind fun y150 => (if t149.size + (strOfNums y150).size ≤ 9223372036854775807 then (some (t149 ++ (strOfNums y150))) else (none))))) = some r := h
 clear h
 by_cases c2 : a0 < 10
 ·rw [if_pos c2] at H
  have c2b0 : decide (a0 < 10) = true := decide_eq_true c2
  clear c2
  obtain ⟨y146, hy146⟩ : ∃ y_ : List Int, y_ = (([(wrap64 (48 + a0)) % 256] : List Int)) := ⟨_, rfl⟩
  replace H : (some (strOfNums y146)) = some r := by first | (rw [hy146]; with_reducible exact H) | (have H2_ := (Option.bind_some _ _).symm.trans H; rw [hy146]; with_reducible exact H2_) | (have H2_ := (Option.bind_some _ _).symm.trans H; with_reducible exact H2_) | with_reducible exact H | (rw [hy146]; exact H) | exact H
  have Ny146 := Aside0.mk hy146
  clear hy146
  obtain rfl := Option.some.inj H
  go_enter Tryd.func30, Tryd.ntmps30
  go_wp2_with (first | ((with_reducible refine gate_dst (N := 8) rfl ?_); refine Kd.R_lit (Kd.int .u8) _ 5 ?hg (N := 8) ?hd (xs := ([(wrap64 (48 + a0)) % 256] : List Int)) (inner := [.int .u8 ((wrap64 (48 + a0)) % 256)]) (ok := fun _ => True) (okp := fun _ => True) ?hr ?hp (fun _ hk => hk) trivial (Below.refl _ _) (Nat.le_refl _) (by simp) ?_; (case hd => rfl); (case hg => rfl); (case hr => first | (go_simp; done) | (go_simp; rfl)); (case hp => exact (Reps.one (show Kd.M (Kd.int .u8) _ _ _ ((wrap64 (48 + a0)) % 256) [.int .u8 ((wrap64 (48 + a0)) % 256)] from rfl) (Reps.none _ _))); intro v147 w3 ho4 hb hg_ hnew_; clear hg_ hnew_; (first | rw [← Ny146.out] at ho4 | (simp only [Int.reduceToNat] at ho4; rw [← Ny146.out] at ho4)); have n0_ := Aside0.mk (Kd.R_lower ho4 (below_size zb)); have n1_ := Aside0.mk (below_step zb hb); clear HB; have HO148 := n0_; have HB := n1_; clear n0_ n1_; clear hb ho4; have hcv5 := own_string (P := Tryd.prog) Tryd.underlying54 Tryd.underlying5 Tryd.underlying9 (Kd.own_of_R HO148.out)))
  go_ret
  exact ⟨by first | rfl | (simp [errW_none, errW_some] <;> rfl) | (simp [*, errW_none, errW_some] <;> rfl), zb⟩
 ·rw [if_neg c2] at H
  have c2b0 : decide (a0 < 10) = false := decide_eq_false c2
  clear c2
  replace H := Option.bind_eq_some_iff.mp H
  obtain ⟨t149, A60, H⟩ := H
  replace H : ((some (([(wrap64 (48 + (Int.tmod a0 10))) % 256] : List Int) : List Int)).bind fun y150 => (if t149.size + (strOfNums y150).size ≤ 9223372036854775807 then (some (t149 ++ (strOfNums y150))) else (none))) = some r := H
  have A6 := Aside0.mk A60
  clear A60
  obtain ⟨y150, hy150⟩ : ∃ y_ : List Int, y_ = (([(wrap64 (48 + (Int.tmod a0 10))) % 256] : List Int)) := ⟨_, rfl⟩
  replace H : (if t149.size + (strOfNums y150).size ≤ 9223372036854775807 then (some (t149 ++ (strOfNums y150))) else (none)) = some r := by first | (rw [hy150]; with_reducible exact H) | (have H2_ := (Option.bind_some _ _).symm.trans H; rw [hy150]; with_reducible exact H2_) | (have H2_ := (Option.bind_some _ _).symm.trans H; with_reducible exact H2_) | with_reducible exact H | (rw [hy150]; exact H) | exact H
  have Ny150 := Aside0.mk hy150
  clear hy150
  by_cases c7 : t149.size + (strOfNums y150).size ≤ 9223372036854775807
  ·rw [if_pos c7] at H
   have c7b0 := eq_true c7
   have c7b1 : decide (t149.size + (strOfNums y150).size ≤ 9223372036854775807) = true := decide_eq_true c7
   try have c7b2 : (9223372036854775807 < t149.size + (strOfNums y150).size) = False := eq_false (Nat.not_lt.2 c7)
   obtain rfl := Option.some.inj H
   go_enter Tryd.func30, Tryd.ntmps30
   try go_wp2
   have n0_ := Aside0.mk (below_drew1 HB.out)
   clear HB
   have HB := n0_
   clear n0_
   refine start_ (n := 11) (S := fun w' => True) (ds := []) (zl 11 0) (by kernel_rfl) rfl rfl trivial (fun hHeld => ?_); refine with_tabW spec_l1Num.tab3 spec_l1Num.bits3 (fun HT_ HW_ => ?_)
   generalize w.drew = w8 at HB hHeld ⊢
   refine zp 0 10 11 1 HT_ ?_
   refine zp 1 11 11 3 HT_ ?_
   refine zp 3 13 11 11 HT_ ?_
   refine zp 4 14 11 27 HT_ ?_
   refine zp 5 15 11 59 HT_ ?_
   refine zp 6 16 11 123 HT_ ?_
   refine join_ (σ := Value) 2 (zl 11 511) (fun s_ => [(12, .string t149), (17, s_), (18, .string (strOfNums y150))]) (fun s_ w' => (Kd.R (Kd.int .u8) 5 w' w.heap.size (fun _ => True) s_ y150) ∧ (Below w.heap.size w w')) ?_ ?_
   rotate_left
   ·intro hCont
    refine two_ (i := 2) (j := 7) (Ni := some 12) (Nj := some 17) (zl 11 127) (zl 11 251) rfl rfl rfl rfl (two_of HT_.out (by kernel_rfl)) (by decide) (by decide) (fun K hK => ?_) (fun K hK => ?_)
    ·skip
     refine goes_ Tryd.func30 (by kernel_rfl) rfl #[.int .i64 (wrap64 (Int.tdiv a0 10))] (by rfl) rfl rfl zn ?_
     with_reducible refine (ih k (by omega) (wrap64 (Int.tdiv a0 10)) t149 _ A6.out).mono ?_
     rintro e w9 ⟨rfl, hb⟩
     refine ⟨_, rfl, ?_⟩
     have n0_ := Aside0.mk (below_step zb hb)
     clear HB
     have HB := n0_
     clear n0_
     (try clear hb)
     (try clear hb2)
     (try clear hk)
     (try clear hi)
     refine hK.out _ _ trivial (fun hHeld => ?_)
     clear hK K
     refine norm_ (a' := ?_) ?_ ?_
     rotate_left
     ·show Act.put _ (some 12) _ = _
      exact zs
     refine one_ (i := 7) (N := some 17) (zl 11 255) rfl rfl (one_of HT_.out (by kernel_rfl)) (by decide) (fun K hK => ?_)
     refine Kd.R_lit_step (Kd.int .u8) _ 5 ?hg (N := 17) ?hd (xs := ([(wrap64 (48 + (Int.tmod a0 10))) % 256] : List Int)) (inner := [.int .u8 ((wrap64 (48 + (Int.tmod a0 10))) % 256)]) (ok := fun _ => True) (okp := fun _ => True) ?hr ?hp (fun _ hk => hk) trivial (Below.refl _ _) (Nat.le_refl _) (by simp) ?_; (case hd => rfl); (case hg => rfl); (case hr => first | (go_simp; done) | (go_simp; rfl)); (case hp => exact (Reps.one (show Kd.M (Kd.int .u8) _ _ _ ((wrap64 (48 + (Int.tmod a0 10))) % 256) [.int .u8 ((wrap64 (48 + (Int.tmod a0 10))) % 256)] from rfl) (Reps.none _ _)))
     intro v151 w10 ho11 hb hg_ hnew_
     clear hg_ hnew_
     (first | rw [← Ny150.out] at ho11 | (simp only [Int.reduceToNat] at ho11; rw [← Ny150.out] at ho11))
     have n0_ := Aside0.mk (Kd.R_lower ho11 (below_size zb))
     have n1_ := Aside0.mk (below_step zb hb)
     clear HB
     have HO152 := n0_
     have HB := n1_
     clear n0_ n1_
     clear hb ho11
     refine hK.out _ _ trivial (fun hHeld => ?_)
     clear hK K
     refine norm_ (a' := ?_) ?_ ?_
     rotate_left
     ·show Act.put _ (some 17) _ = _
      exact zs
     refine one_ (i := 8) (N := some 18) (zl 11 511) rfl rfl (one_of HT_.out (by kernel_rfl)) (by decide) (fun K hK => ?_)
     have hcv12 := own_string (P := Tryd.prog) Tryd.underlying54 Tryd.underlying5 Tryd.underlying9 (Kd.own_of_R HO152.out)
     refine value_ (w1 := ?_) (v := ?_) (by rfl) rfl ?_ ?_
     rotate_left 2
     ·go_simp
      constructor
      ·rfl
      ·rfl
     clear hcv12
     refine hK.out _ _ trivial (fun hHeld => ?_)
     clear hK K
     refine norm_ (a' := ?_) ?_ ?_
     rotate_left
     ·show Act.put _ (some 18) _ = _
      exact zs
     exact norm_ (by simp only [putAll, Act.put, List.setIfInBounds_toArray, List.set_cons_zero, List.set_cons_succ]) (hCont (v151) _ ⟨(by (with_reducible repeat (first | apply Kd.R_alloc | apply Kd.R_drewN | apply Kd.R_drew)); exact HO152.out), zb⟩)
    ·skip
     refine Kd.R_lit_step (Kd.int .u8) _ 5 ?hg (N := 17) ?hd (xs := ([(wrap64 (48 + (Int.tmod a0 10))) % 256] : List Int)) (inner := [.int .u8 ((wrap64 (48 + (Int.tmod a0 10))) % 256)]) (ok := fun _ => True) (okp := fun _ => True) ?hr ?hp (fun _ hk => hk) trivial (Below.refl _ _) (Nat.le_refl _) (by simp) ?_; (case hd => rfl); (case hg => rfl); (case hr => first | (go_simp; done) | (go_simp; rfl)); (case hp => exact (Reps.one (show Kd.M (Kd.int .u8) _ _ _ ((wrap64 (48 + (Int.tmod a0 10))) % 256) [.int .u8 ((wrap64 (48 + (Int.tmod a0 10))) % 256)] from rfl) (Reps.none _ _)))
     intro v151 w9 ho10 hb hg_ hnew_
     clear hg_ hnew_
     (first | rw [← Ny150.out] at ho10 | (simp only [Int.reduceToNat] at ho10; rw [← Ny150.out] at ho10))
     have n0_ := Aside0.mk (Kd.R_lower ho10 (below_size zb))
     have n1_ := Aside0.mk (below_step zb hb)
     clear HB
     have HO152 := n0_
     have HB := n1_
     clear n0_ n1_
     clear hb ho10
     refine hK.out _ _ trivial (fun hHeld => ?_)
     clear hK K
     refine norm_ (a' := ?_) ?_ ?_
     rotate_left
     ·show Act.put _ (some 17) _ = _
      exact zs
     refine two_ (i := 2) (j := 8) (Ni := some 12) (Nj := some 18) (zl 11 255) (zl 11 507) rfl rfl rfl rfl (two_of HT_.out (by kernel_rfl)) (by decide) (by decide) (fun K hK => ?_) (fun K hK => ?_)
     ·skip
      refine goes_ Tryd.func30 (by kernel_rfl) rfl #[.int .i64 (wrap64 (Int.tdiv a0 10))] (by rfl) rfl rfl zn ?_
      with_reducible refine (ih k (by omega) (wrap64 (Int.tdiv a0 10)) t149 _ A6.out).mono ?_
      rintro e w11 ⟨rfl, hb⟩
      refine ⟨_, rfl, ?_⟩
      have n0_ := Aside0.mk (Kd.R_below (by (with_reducible repeat (first | apply Kd.R_alloc | apply Kd.R_drewN | apply Kd.R_drew)); exact HO152.out) hb)
      have n1_ := Aside0.mk (below_step zb hb)
      clear HO152
      clear HB
      have HO152 := n0_
      have HB := n1_
      clear n0_ n1_
      (try clear hb)
      (try clear hb2)
      (try clear hk)
      (try clear hi)
      refine hK.out _ _ trivial (fun hHeld => ?_)
      clear hK K
      refine norm_ (a' := ?_) ?_ ?_
      rotate_left
      ·show Act.put _ (some 12) _ = _
       exact zs
      refine one_ (i := 8) (N := some 18) (zl 11 511) rfl rfl (one_of HT_.out (by kernel_rfl)) (by decide) (fun K hK => ?_)
      have hcv12 := own_string (P := Tryd.prog) Tryd.underlying54 Tryd.underlying5 Tryd.underlying9 (Kd.own_of_R HO152.out)
      refine value_ (w1 := ?_) (v := ?_) (by rfl) rfl ?_ ?_
      rotate_left 2
      ·go_simp
       constructor
       ·rfl
       ·rfl
      clear hcv12
      refine hK.out _ _ trivial (fun hHeld => ?_)
      clear hK K
      refine norm_ (a' := ?_) ?_ ?_
      rotate_left
      ·show Act.put _ (some 18) _ = _
       exact zs
      exact norm_ (by simp only [putAll, Act.put, List.setIfInBounds_toArray, List.set_cons_zero, List.set_cons_succ]) (hCont (v151) _ ⟨(by (with_reducible repeat (first | apply Kd.R_alloc | apply Kd.R_drewN | apply Kd.R_drew)); exact HO152.out), zb⟩)
     ·skip
      have hcv11 := own_string (P := Tryd.prog) Tryd.underlying54 Tryd.underlying5 Tryd.underlying9 (Kd.own_of_R HO152.out)
      refine value_ (w1 := ?_) (v := ?_) (by rfl) rfl ?_ ?_
      rotate_left 2
      ·go_simp
       constructor
       ·rfl
       ·rfl
      clear hcv11
      refine hK.out _ _ trivial (fun hHeld => ?_)
      clear hK K
      refine norm_ (a' := ?_) ?_ ?_
      rotate_left
      ·show Act.put _ (some 18) _ = _
       exact zs
      refine one_ (i := 2) (N := some 12) (zl 11 511) rfl rfl (one_of HT_.out (by kernel_rfl)) (by decide) (fun K hK => ?_)
      refine goes_ Tryd.func30 (by kernel_rfl) rfl #[.int .i64 (wrap64 (Int.tdiv a0 10))] (by rfl) rfl rfl zn ?_
      with_reducible refine (ih k (by omega) (wrap64 (Int.tdiv a0 10)) t149 _ A6.out).mono ?_
      rintro e w12 ⟨rfl, hb⟩
      refine ⟨_, rfl, ?_⟩
      have n0_ := Aside0.mk (Kd.R_below (by (with_reducible repeat (first | apply Kd.R_alloc | apply Kd.R_drewN | apply Kd.R_drew)); exact HO152.out) hb)
      have n1_ := Aside0.mk (below_step zb hb)
      clear HO152
      clear HB
      have HO152 := n0_
      have HB := n1_
      clear n0_ n1_
      (try clear hb)
      (try clear hb2)
      (try clear hk)
      (try clear hi)
      refine hK.out _ _ trivial (fun hHeld => ?_)
      clear hK K
      refine norm_ (a' := ?_) ?_ ?_
      rotate_left
      ·show Act.put _ (some 12) _ = _
       exact zs
      exact norm_ (by simp only [putAll, Act.put, List.setIfInBounds_toArray, List.set_cons_zero, List.set_cons_succ]) (hCont (v151) _ ⟨(by (with_reducible repeat (first | apply Kd.R_alloc | apply Kd.R_drewN | apply Kd.R_drew)); exact HO152.out), zb⟩)
   rintro v151 w13 ⟨h0_, h1_⟩
   have n0_ : Aside0 (Kd.R (Kd.int .u8) 5 w13 w.heap.size (fun _ => True) v151 y150) := ⟨h0_⟩
   have n1_ : Aside0 (Below w.heap.size w w13) := ⟨h1_⟩
   clear HB
   clear h0_ h1_
   have HO152 := n0_
   have HB := n1_
   clear n0_ n1_
   have hHeld := trivial
   refine norm_ (a' := ?_) ?_ ?_
   rotate_left
   ·simp only [putAll, Act.put, List.setIfInBounds_toArray, List.set_cons_zero, List.set_cons_succ]
    rfl
   refine zp 9 19 11 1023 HT_ ?_
   refine zp 10 2 11 2047 HT_ ?_
   refine done_ (done_of HT_.out (by kernel_rfl)) ?_
   try go_wp2
   go_ret
   exact ⟨by first | rfl | (simp [errW_none, errW_some] <;> rfl) | (simp [*, errW_none, errW_some] <;> rfl), zb⟩
  ·rw [if_neg c7] at H
   exact absurd H (by simp)
def spec_l1Int.f (k : Nat) (a0 : Int) : Option (ByteArray) := if a0 < 0 then ((spec_l1Num.f k (wrap64 (-a0))).bind fun t153 => (if 1 + t153.size ≤ 9223372036854775807 then (some ((⟨#[45]⟩ : ByteArray) ++ t153)) else (none))) else ((spec_l1Num.f k a0).bind fun t154 => (some t154))
set_option maxHeartbeats 8000000 in
set_option maxRecDepth 100000 in
theorem spec_l1Int.calls (k : Nat) (a0 : Int) (r : ByteArray) (w : World) (h : spec_l1Int.f k a0 = some r) :
  Calls Tryd.prog 19 #[.int .i64 a0] w fun e w' => e = .returned (.string r) ∧ Below w.heap.size w w' := by
 have HB := Aside0.mk (Below.refl w.heap.size w)
 have H : (if a0 < 0 then ((spec_l1Num.f k (wrap64 (-a0))).bind fun t153 => (if 1 + t153.size ≤ 9223372036854775807 then (some ((⟨#[45]⟩ : ByteArray) ++ t153)) else (none))) else ((spec_l1Num.f k a0).bind fun t154 => (some t154))) = some r := h
 clear h
 by_cases c2 : a0 < 0
 ·rw [if_pos c2] at H
  have c2b0 : decide (a0 < 0) = true := decide_eq_true c2
  clear c2
  replace H := Option.bind_eq_some_iff.mp H
  obtain ⟨t153, A30, H⟩ := H
  replace H : (if 1 + t153.size ≤ 9223372036854775807 then (some ((⟨#[45]⟩ : ByteArray) ++ t153)) else (none)) = some r := H
  have A3 := Aside0.mk A30
  clear A30
  by_cases c4 : 1 + t153.size ≤ 9223372036854775807
  ·rw [if_pos c4] at H
   have c4b0 := eq_true c4
   have c4b1 : decide (1 + t153.size ≤ 9223372036854775807) = true := decide_eq_true c4
   try have c4b2 : (9223372036854775807 < 1 + t153.size) = False := eq_false (Nat.not_lt.2 c4)
   obtain rfl := Option.some.inj H
   go_enter Tryd.func19, Tryd.ntmps19
   go_wp2_with (first | ((with_reducible refine gate_callee (f := 30) rfl ?_); refine goesL_ (some 7) rfl rfl Tryd.func30 (by kernel_rfl) rfl #[.int .i64 (wrap64 (-a0))] rfl zn ?_; (with_reducible refine (spec_l1Num.calls k (wrap64 (-a0)) t153 _ A3.out).mono ?_); rintro e w5 ⟨rfl, hb⟩; refine ⟨_, rfl, ?_⟩; have n0_ := Aside0.mk (below_step zb hb); clear HB; have HB := n0_; clear n0_; (try clear hb); (try clear hb2); (try clear hk); (try clear hi)))
   go_ret
   exact ⟨by first | rfl | (simp [errW_none, errW_some] <;> rfl) | (simp [*, errW_none, errW_some] <;> rfl), zb⟩
  ·rw [if_neg c4] at H
   exact absurd H (by simp)
 ·rw [if_neg c2] at H
  have c2b0 : decide (a0 < 0) = false := decide_eq_false c2
  clear c2
  replace H := Option.bind_eq_some_iff.mp H
  obtain ⟨t154, A60, H⟩ := H
  replace H : (some t154) = some r := H
  have A6 := Aside0.mk A60
  clear A60
  obtain rfl := Option.some.inj H
  go_enter Tryd.func19, Tryd.ntmps19
  go_wp2_with (first | ((with_reducible refine gate_callee (f := 30) rfl ?_); refine goesL_ (some 10) rfl rfl Tryd.func30 (by kernel_rfl) rfl #[.int .i64 a0] rfl zn ?_; (with_reducible refine (spec_l1Num.calls k a0 t154 _ A6.out).mono ?_); rintro e w7 ⟨rfl, hb⟩; refine ⟨_, rfl, ?_⟩; have n0_ := Aside0.mk (below_step zb hb); clear HB; have HB := n0_; clear n0_; (try clear hb); (try clear hb2); (try clear hk); (try clear hi)))
  go_ret
  exact ⟨by first | rfl | (simp [errW_none, errW_some] <;> rfl) | (simp [*, errW_none, errW_some] <;> rfl), zb⟩
def spec_pgText.l0 : Nat → ByteArray → List (S33) → Int → Int → Option (ByteArray)
 | 0, _, _, _, _ => none
 | k + 1, x3, x6, x7, x8 => if x8 < x7 then (if 0 ≤ x8 then (if x8 < (x6.length : Int) then (if x8 > 0 then (if x3.size + 1 ≤ 9223372036854775807 then ((spec_l1Int.f k ((rd_T33 x6 x8).f0)).bind fun t157 => (if t157.size + 1 ≤ 9223372036854775807 then ((spec_l1Int.f k ((rd_T33 x6 x8).f1)).bind fun t158 => (if (t157 ++ (⟨#[44]⟩ : ByteArray)).size + t158.size ≤ 9223372036854775807 then (if (x3 ++ (⟨#[32]⟩ : ByteArray)).size + ((t157 ++ (⟨#[44]⟩ : ByteArray)) ++ t158).size ≤ 9223372036854775807 then (spec_pgText.l0 k ((x3 ++ (⟨#[32]⟩ : ByteArray)) ++ ((t157 ++ (⟨#[44]⟩ : ByteArray)) ++ t158)) x6 x7 (wrap64 (x8 + 1))) else (none)) else (none))) else (none))) else (none)) else ((spec_l1Int.f k ((rd_T33 x6 x8).f0)).bind fun t159 => (if t159.size + 1 ≤ 9223372036854775807 then ((spec_l1Int.f k ((rd_T33 x6 x8).f1)).bind fun t160 => (if (t159 ++ (⟨#[44]⟩ : ByteArray)).size + t160.size ≤ 9223372036854775807 then (if x3.size + ((t159 ++ (⟨#[44]⟩ : ByteArray)) ++ t160).size ≤ 9223372036854775807 then (spec_pgText.l0 k (x3 ++ ((t159 ++ (⟨#[44]⟩ : ByteArray)) ++ t160)) x6 x7 (wrap64 (x8 + 1))) else (none)) else (none))) else (none)))) else (none)) else (none)) else (some x3)
def spec_pgText.f (k : Nat) (l0 : List (S33)) : Option (ByteArray) := spec_pgText.l0 k (⟨#[]⟩ : ByteArray) l0 (l0.length : Int) 0
def spec_pgText.T7 : Bool × List (List Nat × List Nat) := (true, [([], []), ([], []), ([1], [1]), ([2], [2]), ([3], [3]), ([], []), ([5], [5]), ([6, 3], [6]), ([4, 7], [4, 7]), ([0, 8], [0, 8]), ([9, 7, 0, 1, 2, 3, 4, 5, 6, 7, 8, 9], [0, 9])])
def spec_pgText.B7 : List Nat := [0, 0, 2, 6, 14, 0, 32, 110, 254, 511, 1023]
theorem spec_pgText.tab7 : rtab .any (opsOf Tryd.f10 7) = spec_pgText.T7 := by kernel_rfl
theorem spec_pgText.bits7 : waitsOk spec_pgText.T7.2 spec_pgText.B7 = true := by kernel_rfl
set_option maxHeartbeats 8000000 in
set_option maxRecDepth 100000 in
theorem spec_pgText.calls (k : Nat) (A0 : Option Addr) (c0 : Nat) (l0 : List (S33)) (r : ByteArray) (w : World) (hr0 : Kd.C k33 w A0 l0.length l0) (hc0 : l0.length ≤ c0) (h : spec_pgText.f k l0 = some r) :
  Calls Tryd.prog 10 #[.slice A0 l0.length c0] w fun e w' => e = .returned (.string r) ∧ Below w.heap.size w w' := by
 have hu33 := Tryd.underlying33
 have HR0 := Aside0.mk hr0
 have HC0 := Aside0.mk hc0
 clear hr0 hc0
 have HB := Aside0.mk (Below.refl w.heap.size w)
 have H : (spec_pgText.l0 k (⟨#[]⟩ : ByteArray) l0 (l0.length : Int) 0) = some r := h
 clear h
 have H' := Aside0.mk H
 clear H
 go_enter Tryd.func10, Tryd.ntmps10
 go_wp2
 go_loopg [3, 8] k (fun kq v3 v8 w' => ∃ (x3_1 : ByteArray) (x8_1 : Int), v3 = .string x3_1 ∧ v8 = .int .i64 x8_1 ∧ Aside0 (spec_pgText.l0 kq x3_1 l0 (l0.length : Int) x8_1 = some r) ∧ Aside0 (kq ≤ k) ∧ Aside0 (Below w.heap.size w w'))
 case atStart => exact ⟨((⟨#[]⟩ : ByteArray)), (0), (by first | rfl | (simp; done) | (simp [*]; done)), (by first | rfl | (simp; done) | (simp [*]; done)), H', ⟨Nat.le_refl _⟩, ⟨zb⟩⟩
 case round =>
  clear H'
  try clear c1
  obtain ⟨x3_1, x8_1, rfl, rfl, HA, HK1, HB⟩ := hrel
  cases gk with
  | zero => exact absurd HA.out (by simp [spec_pgText.l0])
  | succ k1 =>
   have H := HA.out
   clear HA
   simp only [spec_pgText.l0] at H
   by_cases c2 : x8_1 < (l0.length : Int)
   ·rw [if_pos c2] at H
    have c2b0 : decide (x8_1 < (l0.length : Int)) = true := decide_eq_true c2
    clear c2
    by_cases c3 : 0 ≤ x8_1
    ·rw [if_pos c3] at H
     have c3b0 : decide (0 ≤ x8_1) = true := decide_eq_true c3
     clear c3
     by_cases c4 : x8_1 < (l0.length : Int)
     ·rw [if_pos c4] at H
      have c4b0 : decide (x8_1 < (l0.length : Int)) = true := decide_eq_true c4
      clear c4
      by_cases c5 : x8_1 > 0
      ·rw [if_pos c5] at H
       have c5b0 : decide (0 < x8_1) = true := decide_eq_true c5
       clear c5
       by_cases c6 : x3_1.size + 1 ≤ 9223372036854775807
       ·rw [if_pos c6] at H
        have c6b0 := eq_true c6
        (try simp only [ByteArray.size_append, show (⟨#[44]⟩ : ByteArray).size = 1 from rfl, show (⟨#[32]⟩ : ByteArray).size = 1 from rfl] at c6b0)
        have c6b1 : decide (x3_1.size + 1 ≤ 9223372036854775807) = true := decide_eq_true c6
        try have c6b2 : (9223372036854775807 < x3_1.size + 1) = False := eq_false (Nat.not_lt.2 c6)
        replace H := Option.bind_eq_some_iff.mp H
        obtain ⟨t157, A70, H⟩ := H
        replace H : (if t157.size + 1 ≤ 9223372036854775807 then ((spec_l1Int.f k1 ((rd_T33 l0 x8_1).f1)).bind fun t158 => (if (t157 ++ (⟨#[44]⟩ : ByteArray)).size + t158.size ≤ 9223372036854775807 then (if (x3_1 ++ (⟨#[32]⟩ : ByteArray)).size + ((t157 ++ (⟨#[44]⟩ : ByteArray)) ++ t158).size ≤ 9223372036854775807 then (spec_pgText.l0 k1 ((x3_1 ++ (⟨#[32]⟩ : ByteArray)) ++ ((t157 ++ (⟨#[44]⟩ : ByteArray)) ++ t158)) l0 (l0.length : Int) (wrap64 (x8_1 + 1))) else (none)) else (none))) else (none)) = some r := H
        have A7 := Aside0.mk A70
        clear A70
        by_cases c8 : t157.size + 1 ≤ 9223372036854775807
        ·rw [if_pos c8] at H
         have c8b0 := eq_true c8
         (try simp only [ByteArray.size_append, show (⟨#[44]⟩ : ByteArray).size = 1 from rfl, show (⟨#[32]⟩ : ByteArray).size = 1 from rfl] at c8b0)
         have c8b1 : decide (t157.size + 1 ≤ 9223372036854775807) = true := decide_eq_true c8
         try have c8b2 : (9223372036854775807 < t157.size + 1) = False := eq_false (Nat.not_lt.2 c8)
         replace H := Option.bind_eq_some_iff.mp H
         obtain ⟨t158, A90, H⟩ := H
         replace H : (if (t157 ++ (⟨#[44]⟩ : ByteArray)).size + t158.size ≤ 9223372036854775807 then (if (x3_1 ++ (⟨#[32]⟩ : ByteArray)).size + ((t157 ++ (⟨#[44]⟩ : ByteArray)) ++ t158).size ≤ 9223372036854775807 then (spec_pgText.l0 k1 ((x3_1 ++ (⟨#[32]⟩ : ByteArray)) ++ ((t157 ++ (⟨#[44]⟩ : ByteArray)) ++ t158)) l0 (l0.length : Int) (wrap64 (x8_1 + 1))) else (none)) else (none)) = some r := H
         have A9 := Aside0.mk A90
         clear A90
         by_cases c10 : (t157 ++ (⟨#[44]⟩ : ByteArray)).size + t158.size ≤ 9223372036854775807
         ·rw [if_pos c10] at H
          have c10b0 := eq_true c10
          (try simp only [ByteArray.size_append, show (⟨#[44]⟩ : ByteArray).size = 1 from rfl, show (⟨#[32]⟩ : ByteArray).size = 1 from rfl] at c10b0)
          have c10b1 : decide ((t157 ++ (⟨#[44]⟩ : ByteArray)).size + t158.size ≤ 9223372036854775807) = true := decide_eq_true c10
          (try simp only [ByteArray.size_append, show (⟨#[44]⟩ : ByteArray).size = 1 from rfl, show (⟨#[32]⟩ : ByteArray).size = 1 from rfl] at c10b1)
          try have c10b2 : (9223372036854775807 < (t157 ++ (⟨#[44]⟩ : ByteArray)).size + t158.size) = False := eq_false (Nat.not_lt.2 c10)
          (try simp only [ByteArray.size_append, show (⟨#[44]⟩ : ByteArray).size = 1 from rfl, show (⟨#[32]⟩ : ByteArray).size = 1 from rfl] at c10b2)
          by_cases c11 : (x3_1 ++ (⟨#[32]⟩ : ByteArray)).size + ((t157 ++ (⟨#[44]⟩ : ByteArray)) ++ t158).size ≤ 9223372036854775807
          ·rw [if_pos c11] at H
           have c11b0 := eq_true c11
           (try simp only [ByteArray.size_append, show (⟨#[44]⟩ : ByteArray).size = 1 from rfl, show (⟨#[32]⟩ : ByteArray).size = 1 from rfl] at c11b0)
           have c11b1 : decide ((x3_1 ++ (⟨#[32]⟩ : ByteArray)).size + ((t157 ++ (⟨#[44]⟩ : ByteArray)) ++ t158).size ≤ 9223372036854775807) = true := decide_eq_true c11
           (try simp only [ByteArray.size_append, show (⟨#[44]⟩ : ByteArray).size = 1 from rfl, show (⟨#[32]⟩ : ByteArray).size = 1 from rfl] at c11b1)
           try have c11b2 : (9223372036854775807 < (x3_1 ++ (⟨#[32]⟩ : ByteArray)).size + ((t157 ++ (⟨#[44]⟩ : ByteArray)) ++ t158).size) = False := eq_false (Nat.not_lt.2 c11)
           (try simp only [ByteArray.size_append, show (⟨#[44]⟩ : ByteArray).size = 1 from rfl, show (⟨#[32]⟩ : ByteArray).size = 1 from rfl] at c11b2)
           have H' := Aside0.mk H
           clear H
           have p155 : 0 ≤ (x8_1 : Int) := of_decide_eq_true (by first | (with_reducible assumption) | assumption)
           have q155 : x8_1 < (l0.length : Int) := of_decide_eq_true (by first | (with_reducible assumption) | assumption)
           obtain ⟨ad155, e155, hx155_0, hx155_1⟩ := at_T33 HR0.out x8_1 p155 q155
           cases e155
           replace hx155_0 := zc HB hx155_0
           replace hx155_1 := zc HB hx155_1
           replace p155 := eq_true p155
           replace q155 := eq_true q155
           try go_wp2_with (first | ((with_reducible refine gate_dst (N := 5) rfl ?_); refine box_event ?hg (N := 5) ?hd (cs := #[.int .i64 0, .int .i64 0]) (t := 33) ?hr ?_; (case hd => rfl); (case hg => rfl); (case hr => first | (go_simp; done) | (go_simp; rfl)); intro gb156 hg w12 hbox hb; have n0_ := Aside0.mk (below_step zb hb); have n1_ := Aside0.mk (hbox); have n2_ := Aside0.mk ((by rw [hg]; exact (below_size zb) : w.heap.size ≤ gb156)); have n3_ := Aside0.mk ((by rw [hg]; exact (below_size zb) : w.heap.size ≤ gb156)); clear HB; have HB := n0_; have BK156 := n1_; have GW156 := n2_; have GE156 := n3_; clear n0_ n1_ n2_ n3_; clear hb hbox hg; have hcz13_0 : w12.cell? ⟨gb156, 0, none⟩ = some (.int .i64 0) := (blk_cell BK156.out 0).trans rfl; have hcz13_1 : w12.cell? ⟨gb156, 1, none⟩ = some (.int .i64 0) := (blk_cell BK156.out 1).trans rfl; have hfz13_0 := blk_frozen BK156.out 0; have hfz13_1 := blk_frozen BK156.out 1))
           have n0_ : Aside0 (((w12.setCell ⟨gb156, 0, none⟩ (.int .i64 ((rd_T33 l0 x8_1).f0))).setCell ⟨gb156, 1, none⟩ (.int .i64 ((rd_T33 l0 x8_1).f1))).heap[gb156]? = some (.cells #[.int .i64 ((rd_T33 l0 x8_1).f0), .int .i64 ((rd_T33 l0 x8_1).f1)] 33 (0, 0))) := ⟨by (with_reducible repeat (first | refine blk_drewN ?_ _ | refine blk_drew ?_ | refine blk_alloc ?_ _)); refine blk_put (cs := #[.int .i64 ((rd_T33 l0 x8_1).f0), .int .i64 0]) ?_ 1 _ rfl; (with_reducible repeat (first | refine blk_drewN ?_ _ | refine blk_drew ?_ | refine blk_alloc ?_ _)); refine blk_put (cs := #[.int .i64 0, .int .i64 0]) ?_ 0 _ rfl; (with_reducible repeat (first | refine blk_drewN ?_ _ | refine blk_drew ?_ | refine blk_alloc ?_ _)); exact BK156.out⟩
           have n1_ : Aside0 (Below w.heap.size w ((w12.setCell ⟨gb156, 0, none⟩ (.int .i64 ((rd_T33 l0 x8_1).f0))).setCell ⟨gb156, 1, none⟩ (.int .i64 ((rd_T33 l0 x8_1).f1)))) := ⟨zb⟩
           (try clear BK156)
           (try clear HB)
           generalize ((w12.setCell ⟨gb156, 0, none⟩ (.int .i64 ((rd_T33 l0 x8_1).f0))).setCell ⟨gb156, 1, none⟩ (.int .i64 ((rd_T33 l0 x8_1).f1))) = w14 at n0_ n1_ ⊢
           have BK156 := n0_
           have HB := n1_
           clear n0_ n1_
           have n0_ := Aside0.mk (blk_drew BK156.out)
           have n1_ := Aside0.mk (below_drew1 HB.out)
           clear BK156
           clear HB
           have BK156 := n0_
           have HB := n1_
           clear n0_ n1_
           refine start_ (n := 11) (S := fun w' => w'.cell? ⟨gb156, 0, none⟩ = some (.int .i64 ((rd_T33 l0 x8_1).f0)) ∧ w'.cell? ⟨gb156, 1, none⟩ = some (.int .i64 ((rd_T33 l0 x8_1).f1))) (ds := []) (zl 11 0) (by kernel_rfl) rfl rfl ⟨(blk_cell BK156.out 0).trans rfl, (blk_cell BK156.out 1).trans rfl⟩ (fun hHeld => ?_); refine with_tabW spec_pgText.tab7 spec_pgText.bits7 (fun HT_ HW_ => ?_)
           generalize w14.drew = w15 at BK156 HB hHeld ⊢
           refine zp 0 17 11 1 HT_ ?_
           refine zp 1 18 11 3 HT_ ?_
           refine zp 5 22 11 35 HT_ ?_
           refine take_ (i := 2) (N := some 19) (v := ?_) (a' := ?_) (zl 11 39) rfl rfl (take_ofW HT_.out HW_.out (by kernel_rfl)) (fun _ _ _ h => h) (Or.inl ⟨by rfl, ?_⟩) hHeld ?_ ?_
           rotate_left
           ·rintro w' ⟨s0, s1⟩
            go_simp
            with_reducible rfl
           rotate_left
           ·exact zs
           refine take_ (i := 6) (N := some 23) (v := ?_) (a' := ?_) (zl 11 103) rfl rfl (take_ofW HT_.out HW_.out (by kernel_rfl)) (fun _ _ _ h => h) (Or.inl ⟨by rfl, ?_⟩) hHeld ?_ ?_
           rotate_left
           ·rintro w' ⟨s0, s1⟩
            go_simp
            with_reducible rfl
           rotate_left
           ·exact zs
           refine one_ (i := 3) (N := some 20) (zl 11 111) rfl rfl (one_of HT_.out (by kernel_rfl)) (by decide) (fun K hK => ?_)
           refine goes_ Tryd.func19 (by kernel_rfl) rfl #[.int .i64 ((rd_T33 l0 x8_1).f0)] (by rfl) rfl rfl zn ?_
           with_reducible refine (spec_l1Int.calls k1 ((rd_T33 l0 x8_1).f0) t157 _ A7.out).mono ?_
           rintro e w16 ⟨rfl, hb⟩
           refine ⟨_, rfl, ?_⟩
           have n0_ := Aside0.mk (blk_below (g := gb156) (o := .cells #[.int .i64 ((rd_T33 l0 x8_1).f0), .int .i64 ((rd_T33 l0 x8_1).f1)] 33 (0, 0)) zk hb)
           have n1_ := Aside0.mk (below_step zb hb)
           clear BK156
           clear HB
           have BK156 := n0_
           have HB := n1_
           clear n0_ n1_
           (try clear hb)
           (try clear hb2)
           (try clear hk)
           (try clear hi)
           refine hK.out _ _ ⟨(blk_cell BK156.out 0).trans rfl, (blk_cell BK156.out 1).trans rfl⟩ (fun hHeld => ?_)
           clear hK K
           refine norm_ (a' := ?_) ?_ ?_
           rotate_left
           ·show Act.put _ (some 20) _ = _
            exact zs
           refine zp 4 21 11 127 HT_ ?_
           refine one_ (i := 7) (N := some 24) (zl 11 255) rfl rfl (one_of HT_.out (by kernel_rfl)) (by decide) (fun K hK => ?_)
           refine goes_ Tryd.func19 (by kernel_rfl) rfl #[.int .i64 ((rd_T33 l0 x8_1).f1)] (by rfl) rfl rfl zn ?_
           with_reducible refine (spec_l1Int.calls k1 ((rd_T33 l0 x8_1).f1) t158 _ A9.out).mono ?_
           rintro e w17 ⟨rfl, hb⟩
           refine ⟨_, rfl, ?_⟩
           have n0_ := Aside0.mk (blk_below (g := gb156) (o := .cells #[.int .i64 ((rd_T33 l0 x8_1).f0), .int .i64 ((rd_T33 l0 x8_1).f1)] 33 (0, 0)) zk hb)
           have n1_ := Aside0.mk (below_step zb hb)
           clear BK156
           clear HB
           have BK156 := n0_
           have HB := n1_
           clear n0_ n1_
           (try clear hb)
           (try clear hb2)
           (try clear hk)
           (try clear hi)
           refine hK.out _ _ ⟨(blk_cell BK156.out 0).trans rfl, (blk_cell BK156.out 1).trans rfl⟩ (fun hHeld => ?_)
           clear hK K
           refine norm_ (a' := ?_) ?_ ?_
           rotate_left
           ·show Act.put _ (some 24) _ = _
            exact zs
           refine zp 8 25 11 511 HT_ ?_
           refine zp 9 26 11 1023 HT_ ?_
           refine zp 10 3 11 2047 HT_ ?_
           refine done_ (done_of HT_.out (by kernel_rfl)) ?_
           try go_wp2
           go_roundg k1
           case measure => have := HK1.out; omega
           case rel => exact ⟨((x3_1 ++ (⟨#[32]⟩ : ByteArray)) ++ ((t157 ++ (⟨#[44]⟩ : ByteArray)) ++ t158)), (wrap64 (x8_1 + 1)), (by first | rfl | (simp; done) | (simp [*]; done)), (by first | rfl | (simp; done) | (simp [*]; done)), H', ⟨by have := HK1.out; omega⟩, ⟨zb⟩⟩
          ·rw [if_neg c11] at H
           exact absurd H (by simp)
         ·rw [if_neg c10] at H
          exact absurd H (by simp)
        ·rw [if_neg c8] at H
         exact absurd H (by simp)
       ·rw [if_neg c6] at H
        exact absurd H (by simp)
      ·rw [if_neg c5] at H
       have c5b0 : decide (0 < x8_1) = false := decide_eq_false c5
       clear c5
       replace H := Option.bind_eq_some_iff.mp H
       obtain ⟨t159, A180, H⟩ := H
       replace H : (if t159.size + 1 ≤ 9223372036854775807 then ((spec_l1Int.f k1 ((rd_T33 l0 x8_1).f1)).bind fun t160 => (if (t159 ++ (⟨#[44]⟩ : ByteArray)).size + t160.size ≤ 9223372036854775807 then (if x3_1.size + ((t159 ++ (⟨#[44]⟩ : ByteArray)) ++ t160).size ≤ 9223372036854775807 then (spec_pgText.l0 k1 (x3_1 ++ ((t159 ++ (⟨#[44]⟩ : ByteArray)) ++ t160)) l0 (l0.length : Int) (wrap64 (x8_1 + 1))) else (none)) else (none))) else (none)) = some r := H
       have A18 := Aside0.mk A180
       clear A180
       by_cases c19 : t159.size + 1 ≤ 9223372036854775807
       ·rw [if_pos c19] at H
        have c19b0 := eq_true c19
        (try simp only [ByteArray.size_append, show (⟨#[44]⟩ : ByteArray).size = 1 from rfl, show (⟨#[32]⟩ : ByteArray).size = 1 from rfl] at c19b0)
        have c19b1 : decide (t159.size + 1 ≤ 9223372036854775807) = true := decide_eq_true c19
        try have c19b2 : (9223372036854775807 < t159.size + 1) = False := eq_false (Nat.not_lt.2 c19)
        replace H := Option.bind_eq_some_iff.mp H
        obtain ⟨t160, A200, H⟩ := H
        replace H : (if (t159 ++ (⟨#[44]⟩ : ByteArray)).size + t160.size ≤ 9223372036854775807 then (if x3_1.size + ((t159 ++ (⟨#[44]⟩ : ByteArray)) ++ t160).size ≤ 9223372036854775807 then (spec_pgText.l0 k1 (x3_1 ++ ((t159 ++ (⟨#[44]⟩ : ByteArray)) ++ t160)) l0 (l0.length : Int) (wrap64 (x8_1 + 1))) else (none)) else (none)) = some r := H
        have A20 := Aside0.mk A200
        clear A200
        by_cases c21 : (t159 ++ (⟨#[44]⟩ : ByteArray)).size + t160.size ≤ 9223372036854775807
        ·rw [if_pos c21] at H
         have c21b0 := eq_true c21
         (try simp only [ByteArray.size_append, show (⟨#[44]⟩ : ByteArray).size = 1 from rfl, show (⟨#[32]⟩ : ByteArray).size = 1 from rfl] at c21b0)
         have c21b1 : decide ((t159 ++ (⟨#[44]⟩ : ByteArray)).size + t160.size ≤ 9223372036854775807) = true := decide_eq_true c21
         (try simp only [ByteArray.size_append, show (⟨#[44]⟩ : ByteArray).size = 1 from rfl, show (⟨#[32]⟩ : ByteArray).size = 1 from rfl] at c21b1)
         try have c21b2 : (9223372036854775807 < (t159 ++ (⟨#[44]⟩ : ByteArray)).size + t160.size) = False := eq_false (Nat.not_lt.2 c21)
         (try simp only [ByteArray.size_append, show (⟨#[44]⟩ : ByteArray).size = 1 from rfl, show (⟨#[32]⟩ : ByteArray).size = 1 from rfl] at c21b2)
         by_cases c22 : x3_1.size + ((t159 ++ (⟨#[44]⟩ : ByteArray)) ++ t160).size ≤ 9223372036854775807
         ·rw [if_pos c22] at H
          have c22b0 := eq_true c22
          (try simp only [ByteArray.size_append, show (⟨#[44]⟩ : ByteArray).size = 1 from rfl, show (⟨#[32]⟩ : ByteArray).size = 1 from rfl] at c22b0)
          have c22b1 : decide (x3_1.size + ((t159 ++ (⟨#[44]⟩ : ByteArray)) ++ t160).size ≤ 9223372036854775807) = true := decide_eq_true c22
          (try simp only [ByteArray.size_append, show (⟨#[44]⟩ : ByteArray).size = 1 from rfl, show (⟨#[32]⟩ : ByteArray).size = 1 from rfl] at c22b1)
          try have c22b2 : (9223372036854775807 < x3_1.size + ((t159 ++ (⟨#[44]⟩ : ByteArray)) ++ t160).size) = False := eq_false (Nat.not_lt.2 c22)
          (try simp only [ByteArray.size_append, show (⟨#[44]⟩ : ByteArray).size = 1 from rfl, show (⟨#[32]⟩ : ByteArray).size = 1 from rfl] at c22b2)
          have H' := Aside0.mk H
          clear H
          have p155 : 0 ≤ (x8_1 : Int) := of_decide_eq_true (by first | (with_reducible assumption) | assumption)
          have q155 : x8_1 < (l0.length : Int) := of_decide_eq_true (by first | (with_reducible assumption) | assumption)
          obtain ⟨ad155, e155, hx155_0, hx155_1⟩ := at_T33 HR0.out x8_1 p155 q155
          cases e155
          replace hx155_0 := zc HB hx155_0
          replace hx155_1 := zc HB hx155_1
          replace p155 := eq_true p155
          replace q155 := eq_true q155
          try go_wp2_with (first | ((with_reducible refine gate_dst (N := 5) rfl ?_); refine box_event ?hg (N := 5) ?hd (cs := #[.int .i64 0, .int .i64 0]) (t := 33) ?hr ?_; (case hd => rfl); (case hg => rfl); (case hr => first | (go_simp; done) | (go_simp; rfl)); intro gb156 hg w23 hbox hb; have n0_ := Aside0.mk (below_step zb hb); have n1_ := Aside0.mk (hbox); have n2_ := Aside0.mk ((by rw [hg]; exact (below_size zb) : w.heap.size ≤ gb156)); have n3_ := Aside0.mk ((by rw [hg]; exact (below_size zb) : w.heap.size ≤ gb156)); clear HB; have HB := n0_; have BK156 := n1_; have GW156 := n2_; have GE156 := n3_; clear n0_ n1_ n2_ n3_; clear hb hbox hg; have hcz24_0 : w23.cell? ⟨gb156, 0, none⟩ = some (.int .i64 0) := (blk_cell BK156.out 0).trans rfl; have hcz24_1 : w23.cell? ⟨gb156, 1, none⟩ = some (.int .i64 0) := (blk_cell BK156.out 1).trans rfl; have hfz24_0 := blk_frozen BK156.out 0; have hfz24_1 := blk_frozen BK156.out 1))
          have n0_ : Aside0 (((w23.setCell ⟨gb156, 0, none⟩ (.int .i64 ((rd_T33 l0 x8_1).f0))).setCell ⟨gb156, 1, none⟩ (.int .i64 ((rd_T33 l0 x8_1).f1))).heap[gb156]? = some (.cells #[.int .i64 ((rd_T33 l0 x8_1).f0), .int .i64 ((rd_T33 l0 x8_1).f1)] 33 (0, 0))) := ⟨by (with_reducible repeat (first | refine blk_drewN ?_ _ | refine blk_drew ?_ | refine blk_alloc ?_ _)); refine blk_put (cs := #[.int .i64 ((rd_T33 l0 x8_1).f0), .int .i64 0]) ?_ 1 _ rfl; (with_reducible repeat (first | refine blk_drewN ?_ _ | refine blk_drew ?_ | refine blk_alloc ?_ _)); refine blk_put (cs := #[.int .i64 0, .int .i64 0]) ?_ 0 _ rfl; (with_reducible repeat (first | refine blk_drewN ?_ _ | refine blk_drew ?_ | refine blk_alloc ?_ _)); exact BK156.out⟩
          have n1_ : Aside0 (Below w.heap.size w ((w23.setCell ⟨gb156, 0, none⟩ (.int .i64 ((rd_T33 l0 x8_1).f0))).setCell ⟨gb156, 1, none⟩ (.int .i64 ((rd_T33 l0 x8_1).f1)))) := ⟨zb⟩
          (try clear BK156)
          (try clear HB)
          generalize ((w23.setCell ⟨gb156, 0, none⟩ (.int .i64 ((rd_T33 l0 x8_1).f0))).setCell ⟨gb156, 1, none⟩ (.int .i64 ((rd_T33 l0 x8_1).f1))) = w25 at n0_ n1_ ⊢
          have BK156 := n0_
          have HB := n1_
          clear n0_ n1_
          have n0_ := Aside0.mk (blk_drew BK156.out)
          have n1_ := Aside0.mk (below_drew1 HB.out)
          clear BK156
          clear HB
          have BK156 := n0_
          have HB := n1_
          clear n0_ n1_
          refine start_ (n := 11) (S := fun w' => w'.cell? ⟨gb156, 0, none⟩ = some (.int .i64 ((rd_T33 l0 x8_1).f0)) ∧ w'.cell? ⟨gb156, 1, none⟩ = some (.int .i64 ((rd_T33 l0 x8_1).f1))) (ds := []) (zl 11 0) (by kernel_rfl) rfl rfl ⟨(blk_cell BK156.out 0).trans rfl, (blk_cell BK156.out 1).trans rfl⟩ (fun hHeld => ?_); refine with_tabW spec_pgText.tab7 spec_pgText.bits7 (fun HT_ HW_ => ?_)
          generalize w25.drew = w26 at BK156 HB hHeld ⊢
          refine zp 0 17 11 1 HT_ ?_
          refine zp 1 18 11 3 HT_ ?_
          refine zp 5 22 11 35 HT_ ?_
          refine take_ (i := 2) (N := some 19) (v := ?_) (a' := ?_) (zl 11 39) rfl rfl (take_ofW HT_.out HW_.out (by kernel_rfl)) (fun _ _ _ h => h) (Or.inl ⟨by rfl, ?_⟩) hHeld ?_ ?_
          rotate_left
          ·rintro w' ⟨s0, s1⟩
           go_simp
           with_reducible rfl
          rotate_left
          ·exact zs
          refine take_ (i := 6) (N := some 23) (v := ?_) (a' := ?_) (zl 11 103) rfl rfl (take_ofW HT_.out HW_.out (by kernel_rfl)) (fun _ _ _ h => h) (Or.inl ⟨by rfl, ?_⟩) hHeld ?_ ?_
          rotate_left
          ·rintro w' ⟨s0, s1⟩
           go_simp
           with_reducible rfl
          rotate_left
          ·exact zs
          refine one_ (i := 3) (N := some 20) (zl 11 111) rfl rfl (one_of HT_.out (by kernel_rfl)) (by decide) (fun K hK => ?_)
          refine goes_ Tryd.func19 (by kernel_rfl) rfl #[.int .i64 ((rd_T33 l0 x8_1).f0)] (by rfl) rfl rfl zn ?_
          with_reducible refine (spec_l1Int.calls k1 ((rd_T33 l0 x8_1).f0) t159 _ A18.out).mono ?_
          rintro e w27 ⟨rfl, hb⟩
          refine ⟨_, rfl, ?_⟩
          have n0_ := Aside0.mk (blk_below (g := gb156) (o := .cells #[.int .i64 ((rd_T33 l0 x8_1).f0), .int .i64 ((rd_T33 l0 x8_1).f1)] 33 (0, 0)) zk hb)
          have n1_ := Aside0.mk (below_step zb hb)
          clear BK156
          clear HB
          have BK156 := n0_
          have HB := n1_
          clear n0_ n1_
          (try clear hb)
          (try clear hb2)
          (try clear hk)
          (try clear hi)
          refine hK.out _ _ ⟨(blk_cell BK156.out 0).trans rfl, (blk_cell BK156.out 1).trans rfl⟩ (fun hHeld => ?_)
          clear hK K
          refine norm_ (a' := ?_) ?_ ?_
          rotate_left
          ·show Act.put _ (some 20) _ = _
           exact zs
          refine zp 4 21 11 127 HT_ ?_
          refine one_ (i := 7) (N := some 24) (zl 11 255) rfl rfl (one_of HT_.out (by kernel_rfl)) (by decide) (fun K hK => ?_)
          refine goes_ Tryd.func19 (by kernel_rfl) rfl #[.int .i64 ((rd_T33 l0 x8_1).f1)] (by rfl) rfl rfl zn ?_
          with_reducible refine (spec_l1Int.calls k1 ((rd_T33 l0 x8_1).f1) t160 _ A20.out).mono ?_
          rintro e w28 ⟨rfl, hb⟩
          refine ⟨_, rfl, ?_⟩
          have n0_ := Aside0.mk (blk_below (g := gb156) (o := .cells #[.int .i64 ((rd_T33 l0 x8_1).f0), .int .i64 ((rd_T33 l0 x8_1).f1)] 33 (0, 0)) zk hb)
          have n1_ := Aside0.mk (below_step zb hb)
          clear BK156
          clear HB
          have BK156 := n0_
          have HB := n1_
          clear n0_ n1_
          (try clear hb)
          (try clear hb2)
          (try clear hk)
          (try clear hi)
          refine hK.out _ _ ⟨(blk_cell BK156.out 0).trans rfl, (blk_cell BK156.out 1).trans rfl⟩ (fun hHeld => ?_)
          clear hK K
          refine norm_ (a' := ?_) ?_ ?_
          rotate_left
          ·show Act.put _ (some 24) _ = _
           exact zs
          refine zp 8 25 11 511 HT_ ?_
          refine zp 9 26 11 1023 HT_ ?_
          refine zp 10 3 11 2047 HT_ ?_
          refine done_ (done_of HT_.out (by kernel_rfl)) ?_
          try go_wp2
          go_roundg k1
          case measure => have := HK1.out; omega
          case rel => exact ⟨(x3_1 ++ ((t159 ++ (⟨#[44]⟩ : ByteArray)) ++ t160)), (wrap64 (x8_1 + 1)), (by first | rfl | (simp; done) | (simp [*]; done)), (by first | rfl | (simp; done) | (simp [*]; done)), H', ⟨by have := HK1.out; omega⟩, ⟨zb⟩⟩
         ·rw [if_neg c22] at H
          exact absurd H (by simp)
        ·rw [if_neg c21] at H
         exact absurd H (by simp)
       ·rw [if_neg c19] at H
        exact absurd H (by simp)
     ·rw [if_neg c4] at H
      exact absurd H (by simp)
    ·rw [if_neg c3] at H
     exact absurd H (by simp)
   ·rw [if_neg c2] at H
    have c2b0 : decide (x8_1 < (l0.length : Int)) = false := decide_eq_false c2
    clear c2
    obtain rfl := Option.some.inj H
    go_wp2
    go_ret
    exact ⟨by first | rfl | (simp [errW_none, errW_some] <;> rfl) | (simp [*, errW_none, errW_some] <;> rfl), zb⟩
end Go.Proofs.YtphpdfcblchpnaaDoor.Q
