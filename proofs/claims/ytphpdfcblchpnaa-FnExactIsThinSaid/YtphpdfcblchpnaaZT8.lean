/- Parts of the proof: printed texts, words and own texts, cut to what is used. -/
import Derived.Deep.QuietTactic
import Derived.Shelf.SlicesQ.Load
import Derived.StillTail
import Derived.Test.YtphpdfcblchpnaaZT7
namespace Go.Proofs.YtphpdfcblchpnaaH
set_option linter.unusedSimpArgs false
open Go.RowKit Go.Shelf Go.Lib Go.Sort Go.Proofs.Ytphpdfcblchpnaa.Q Go.Proofs.YtphpdfcblchpnaaW.PrintWords Go.Proofs.YtphpdfcblchpnaaW.PrintLast
def Ints (W : World) (b n : Nat) : Prop := ∀ j, j < n → ∃ x y : Int, W.cell? ⟨b, j * 2, none⟩ = some (.int .i64 x) ∧ W.cell? ⟨b, j * 2 + 1, none⟩ = some (.int .i64 y)
theorem Ints.below {w W : World} {b n : Nat} (h : Ints w b n) (hb : b < w.heap.size) (hW : Below w.heap.size w W) : Ints W b n := fun j hj => by
  obtain ⟨x, y, hx, hy⟩ := h j hj
  exact ⟨x, y, by rw [hW.cell (p := ⟨b, j * 2, none⟩) hb]; exact hx, by rw [hW.cell (p := ⟨b, j * 2 + 1, none⟩) hb]; exact hy⟩
set_option maxRecDepth 100000 in
set_option maxHeartbeats 2000000 in
theorem idx_weak (g : Nat) (lb : Array Value) (eg : ∀ args w, (callFunc g args).run Try.prog w = .ok (.enter g args) w) (b n c : Nat) (w : World) (hbig : n ≤ 1000000000) (hb : b < w.heap.size) (hI : Ints w b n)
    (hp : ∀ W, Below w.heap.size w W → ∀ x y : Int, ∃ bb : Bool, Calls Try.prog g (#[.agg #[.int .i64 x, .int .i64 y]] ++ lb) W fun e w' => e = .returned (.bool bb) ∧ Below w.heap.size w w') :
    Calls Try.prog 271 #[.slice (some ⟨b, 0, none⟩) n c, .func (.func g) #[] lb] w fun e w' => (∃ i : Int, e = .returned (.int .i64 i) ∧ -1 ≤ i ∧ i < n) ∧ Below w.heap.size w w' := by
  have t22 := Try.underlying24
  have aE := Try.isAgg26
  have zE := Try.sizeOf26
  have hrow : ∀ (W : World), Below w.heap.size w W → ∀ j, j < n → ∃ x y : Int, W.cell? ⟨b, j * 2, none⟩ = some (.int .i64 x) ∧ W.cell? ⟨b, j * 2 + 1, none⟩ = some (.int .i64 y) := fun W hW j hj => hI.below hb hW j hj
  clear hI
  go_enter Try.func271, Try.ntmps271
  go_wp2
  go_loopg [5, 8] n (fun gg _ s8 wr => ∃ kk : Nat, kk ≤ n ∧ n - kk ≤ gg ∧ s8 = .int .i64 kk ∧ Aside (Below w.heap.size w wr))
  case atStart => exact ⟨0, Nat.zero_le _, by omega, rfl, Below.refl _ w⟩
  case round =>
    obtain ⟨kk, hkk, hg, rfl, BW⟩ := hrel
    by_cases hlt : kk < n
    · have hltz : (kk : Int) < (n : Int) := by omega
      obtain ⟨x, y, c1, c2⟩ := hrow wr BW.out kk (by omega)
      obtain ⟨bb, hcall⟩ := hp wr BW.out x y
      clear hrow hp
      cases bb with
      | true =>
        go_wp2_with (go_at_fn g; refine hcall.mono ?_; rintro e w' ⟨rfl, hb'⟩)
        go_ret
        exact ⟨⟨kk, rfl, by omega, hltz⟩, hb'⟩
      | false =>
        go_wp2_with (go_at_fn g; refine hcall.mono ?_; rintro e w' ⟨rfl, hb'⟩)
        go_roundg (n - (kk + 1))
        case measure => omega
        case rel => exact ⟨kk + 1, by omega, by omega, by go_num, hb'⟩
    · have hltz : ¬ (kk : Int) < (n : Int) := by omega
      go_wp2
      go_ret
      exact ⟨⟨-1, rfl, by omega, by omega⟩, BW.out⟩
def Row (W : World) (b n : Nat) : Prop := ∃ cur : Array Value, W.heap[b]? = some (.cells cur 26 (0, 0)) ∧ n * 2 ≤ cur.size ∧ ∀ t, t < n * 2 → ∃ x : Int, cur[t]? = some (.int .i64 x)
theorem Row.ints {W : World} {b n : Nat} (h : Row W b n) : Ints W b n := fun j hj => by
  obtain ⟨cur, hh, hs, ht⟩ := h
  obtain ⟨x, hx⟩ := ht (j * 2) (by omega)
  obtain ⟨y, hy⟩ := ht (j * 2 + 1) (by omega)
  exact ⟨x, y, by simp [World.cell?, hh, hx], by simp [World.cell?, hh, hy]⟩
theorem Row.lt {W : World} {b n : Nat} (h : Row W b n) : b < W.heap.size := by
  obtain ⟨cur, hh, _⟩ := h
  exact (Array.getElem?_eq_some_iff.1 hh).1
theorem Row.frozen {W : World} {b n : Nat} (h : Row W b n) (o : Nat) : W.frozen? ⟨b, o, none⟩ = false := by
  obtain ⟨cur, hh, _⟩ := h
  simp [World.frozen?, hh]
theorem Row.below {w W : World} {b n : Nat} (h : Row w b n) (hW : Below w.heap.size w W) : Row W b n := by
  have hl := h.lt
  obtain ⟨cur, hh, hs, ht⟩ := h
  exact ⟨cur, by rw [hW.block b hl]; exact hh, hs, ht⟩
theorem Row.set {W : World} {b n : Nat} (h : Row W b n) (o : Nat) (x : Int) : Row (W.setCell ⟨b, o, none⟩ (.int .i64 x)) b n := by
  obtain ⟨cur, hh, hs, ht⟩ := h
  rw [setCell_eq_setRow W b o cur 26 (0, 0) _ hh]
  refine ⟨_, setRow_heap W b cur (cur.setIfInBounds o (.int .i64 x)) 26 (0, 0) hh, by simpa using hs, fun t htl => ?_⟩
  by_cases e : o = t
  · subst e
    exact ⟨x, by simp [show o < cur.size from by omega]⟩
  · obtain ⟨y, hy⟩ := ht t htl
    exact ⟨y, by rw [Array.getElem?_setIfInBounds, if_neg e]; exact hy⟩
theorem grown_set {w W : World} {b : Nat} (h : w.grownBy W (some b)) (o : Nat) (x : Value) : w.grownBy (W.setCell ⟨b, o, none⟩ x) (some b) := by
  refine h.trans ⟨rfl, rfl, rfl, Nat.le_of_eq (by simp), fun i hi hne => ?_⟩
  exact Below.heap_setCell W _ _ i (by intro e; apply hne; rw [e])
theorem grown_below {w W V : World} {b : Nat} (h : w.grownBy W (some b)) (k : Below W.heap.size W V) : w.grownBy V (some b) :=
  h.trans ⟨k.os, k.tape, k.output, k.size, fun i hi _ => k.block i hi⟩
theorem clear_run {W : World} {b n : Nat} (h : Row W b n) (i c : Nat) (hi : i < n) (ty : TypeId) : ∃ V, (Builtin.clear_ #[24] ty #[.slice (some ⟨b, i * 2, none⟩) (n - i) c]).run Try.prog W = .ok (.tuple #[]) V ∧ W.grownBy V (some b) := by
  obtain ⟨cur, hh, hs, ht⟩ := h
  have hst := run_storeCells_at (P := Try.prog) b (i * 2) 26 (Builtin.zeroCells #[.int .i64 0, .int .i64 0] (n - i)).toList 0 cur W hh (by simp [Builtin.zeroCells]; omega) (by
    intro v hv
    simp [Builtin.zeroCells] at hv
    obtain ⟨k, hk, rfl⟩ := hv
    rcases (show k % 2 = 0 ∨ k % 2 = 1 by omega) with e | e <;> simp [e] <;> rfl)
  obtain ⟨m, hm⟩ : ∃ m, n - i = m + 1 := ⟨n - i - 1, by omega⟩
  rw [hm] at hst
  rw [hm]
  have e : ∀ V, Sem.run Try.prog (storeCells ⟨b, i * 2, none⟩ (Builtin.zeroCells #[.int .i64 0, .int .i64 0] (m + 1)).toList) W = .ok () V → (Builtin.clear_ #[24] ty #[.slice (some ⟨b, i * 2, none⟩) (m + 1) c]).run Try.prog W = .ok (.tuple #[]) V := by
    intro V hV
    have hz : (Value.agg #[Value.int IntKind.i64 0, Value.int IntKind.i64 0]).cells = #[.int .i64 0, .int .i64 0] := by rfl
    simp [Builtin.clear_, run_underlying Try.underlying24, Try.zeroValue26, hz, hV]
  refine ⟨_, e _ hst, rfl, rfl, rfl, ?_, fun k hk hne => ?_⟩
  · simp [World.setRow]
  · simp only [World.setRow]
    rw [Array.getElem?_modify, if_neg (by intro e; apply hne; rw [e])]
def PredBack (g : Nat) (lb : Array Value) (w : World) (b : Nat) : Prop :=
  ∀ W, w.grownBy W (some b) → ∀ x y : Int, ∃ bb : Bool, Calls Try.prog g (#[.agg #[.int .i64 x, .int .i64 y]] ++ lb) W fun e w' => e = .returned (.bool bb) ∧ Below W.heap.size W w'
theorem grown_alloc {w W : World} {b : Nat} (h : w.grownBy W (some b)) (o : Obj) : w.grownBy (W.alloc o) (some b) := h.trans (World.grownBy_alloc W o _)
set_option maxRecDepth 100000 in
set_option maxHeartbeats 2000000 in
theorem del_weak (g : Nat) (lb : Array Value) (eg : ∀ args w, (callFunc g args).run Try.prog w = .ok (.enter g args) w) (b n c : Nat) (w : World) (hbig : n ≤ 1000000000) (hnc : n ≤ c) (hI : Row w b n) (hp : PredBack g lb w b) :
    Calls Try.prog 262 #[.slice (some ⟨b, 0, none⟩) n c, .func (.func g) #[] lb] w fun e w' => (∃ v : Value, e = .returned v) ∧ w.grownBy w' (some b) := by
  have t22 := Try.underlying24
  have aE := Try.isAgg26
  have zE := Try.sizeOf26
  have zV := Try.zeroValue26
  have hidx := idx_weak g lb eg b n c w hbig hI.lt hI.ints (fun W hW x y => by
    obtain ⟨bb, h⟩ := hp W ⟨hW.os, hW.tape, hW.output, hW.size, fun i hi _ => hW.block i hi⟩ x y
    exact ⟨bb, h.mono fun e w' ⟨he, hb'⟩ => ⟨he, hW.trans (hb'.mono hW.size)⟩⟩)
  have HI := Aside0.mk hI
  have HP := Aside0.mk hp
  clear hI hp
  go_enter Try.func262, Try.ntmps262
  go_wp2_with (go_at_call 271; refine hidx.mono ?_; rintro e w1 ⟨⟨i0, rfl, hi1, hi2⟩, hB⟩)
  · go_ret
    exact ⟨⟨_, rfl⟩, grown_below (World.grownBy.refl _ _) hB⟩
  · have hi3 : 0 ≤ i0 := by
      have h : (i0 == -1) = false := by assumption
      have : i0 ≠ -1 := by simpa using h
      omega
    obtain ⟨i1, rfl⟩ := Int.eq_ofNat_of_zero_le hi3
    have HB := Aside0.mk hB
    have hi4 : i1 < n := by omega
    clear hidx hB hi1 hi2 hi3
    have key : ∀ W, w.grownBy W (some b) → Row W b n → ∀ j, j < n → ∃ x y : Int, W.cell? ⟨b, j * 2, none⟩ = some (.int .i64 x) ∧ W.cell? ⟨b, j * 2 + 1, none⟩ = some (.int .i64 y) ∧
        ∃ bb : Bool, Calls Try.prog g (#[.agg #[.int .i64 x, .int .i64 y]] ++ lb) (W.alloc (.cells #[.int .i64 x, .int .i64 y] 26)) fun e w' => e = .returned (.bool bb) ∧ w.grownBy w' (some b) ∧ Row w' b n ∧
          w'.cell? ⟨W.heap.size, 0, none⟩ = some (.int .i64 x) ∧ w'.cell? ⟨W.heap.size, 1, none⟩ = some (.int .i64 y) := by
      intro W hW hR j hj
      obtain ⟨x, y, hx, hy⟩ := hR.ints j hj
      obtain ⟨bb, h⟩ := HP.out _ (grown_alloc hW (.cells #[.int .i64 x, .int .i64 y] 26)) x y
      refine ⟨x, y, hx, hy, bb, h.mono fun e w' ⟨he, hb⟩ => ⟨he, grown_below (grown_alloc hW _) hb, (hR.below ((Below.refl _ W).alloc (Nat.le_refl _) _)).below hb, ?_, ?_⟩⟩
      · rw [hb.cell (p := ⟨W.heap.size, 0, none⟩) (by simp)]
        simp
      · rw [hb.cell (p := ⟨W.heap.size, 1, none⟩) (by simp)]
        simp
    have KEY := Aside0.mk key
    clear key
    have hw1 : Aside0 (w.grownBy w1 (some b) ∧ Row w1 b n) := ⟨grown_below (World.grownBy.refl _ _) HB.out, HI.out.below HB.out⟩
    clear HB
    go_loopg [5, 6, 7] n (fun gg s5 s6 _ wr => ∃ (i j : Nat), s5 = .int .i64 i ∧ s6 = .int .i64 j ∧ i < j ∧ j ≤ n ∧ n - j ≤ gg ∧ Aside0 (w.grownBy wr (some b) ∧ Row wr b n))
    case atStart => exact ⟨i1, i1 + 1, rfl, by go_num, by omega, by omega, by omega, hw1⟩
    case round =>
      obtain ⟨i, j, rfl, rfl, hij, hjn, hgg, hw⟩ := hrel
      by_cases hlt : j < n
      · have hltz : (j : Int) < (n : Int) := by omega
        obtain ⟨x, y, c1, c2, bb, hcall⟩ := KEY.out wr hw.out.1 hw.out.2 j hlt
        cases bb with
        | true =>
          go_wp2_with (go_at_fn g; refine hcall.mono ?_; rintro e w' ⟨rfl, hg', hr', c3, c4⟩)
          go_roundg (n - (j + 1))
          case measure => omega
          case rel => exact ⟨i, j + 1, rfl, by go_num, by omega, by omega, by omega, ⟨hg', hr'⟩⟩
        | false =>
          have hf1 : ∀ W, Row W b n → W.frozen? ⟨b, i * 2, none⟩ = false := fun W h => h.frozen _
          go_wp2_with (go_at_fn g; refine hcall.mono ?_; rintro e w' ⟨rfl, hg', hr', c3, c4⟩; obtain ⟨x', y', c5, c6⟩ := hr'.ints i (by omega); have f1 := hr'.frozen (i * 2); have f2 := hr'.frozen (i * 2 + 1); have hg' := Aside0.mk hg'; have hr' := Aside0.mk hr')
          go_roundg (n - (j + 1))
          case measure => omega
          case rel => exact ⟨i + 1, j + 1, by go_num, by go_num, by omega, by omega, by omega, ⟨grown_set (grown_set hg'.out _ _) _ _, (hr'.out.set _ _).set _ _⟩⟩
      · obtain rfl : j = n := by omega
        have hltz : ¬ (j : Int) < (j : Int) := by omega
        obtain ⟨V, hcl, hV⟩ := clear_run hw.out.2 i (c - i) hij 0
        have hic1 : i < c := by omega
        have hic2 : (i : Int) ≤ (c : Int) := by omega
        have hic3 : (i : Int) ≤ (j : Int) := by omega
        have hic4 : ¬ (i = c) := by omega
        have hic5 : ¬ (c = i) := by omega
        go_wp2
        go_ret
        exact ⟨⟨_, rfl⟩, hw.out.1.trans hV⟩
end Go.Proofs.YtphpdfcblchpnaaH
namespace Go.Proofs.YtphpdfcblchpnaaH
open Go
section
variable {P : Program} {ops : Array Oper} {md : Region.Mode} {C : World → Prop}
def headQ (P : Program) (md : Region.Mode) (ops : Array Oper) (C : World → Prop) (n : Nat) (L : Array Bool → Act → Prop) : Nat → Array Bool → Act → Prop
  | 0, listed, a => L listed a
  | f + 1, listed, a => Region.ready md ops listed ≠ [] ∧ ∀ i ∈ Region.ready md ops listed, i < n ∧ qOp P ops C i (headQ P md ops C n L f (listed.setIfInBounds i true)) a
theorem any_of_headQ {n g : Nat} {L : Array Bool → Act → Prop} {Q' : Exit → Act → World → Prop} (hL : ∀ listed a w, C w → L listed a → wpAny P md ops Q' g listed a w) :
    ∀ (f : Nat) (listed : Array Bool) (a : Act) (w : World), C w → headQ P md ops C n L f listed a → wpAny P md ops Q' (f + g) listed a w
  | 0, listed, a, w, hw, h => by
    rw [Nat.zero_add]
    exact hL _ _ _ hw h
  | f + 1, listed, a, w, hw, h => by
    rw [show f + 1 + g = (f + g) + 1 from by omega]
    exact ⟨fun h0 => absurd h0 h.1, fun i hi => wpOp_of_qOp hw (fun a' w' hw' h' => any_of_headQ hL f _ a' w' hw' h') (h.2 i hi).2⟩
theorem headQ_first {n i : Nat} {oi : Oper} {v : Value} {L : Array Bool → Act → Prop} (hi : ops[i]? = some oi) (hsel : ∀ (j : Nat) (o : Oper) cs b, ops[j]? = some o → o.op ≠ .select cs b)
    (hs : Region.sinkB md ops n = true) (hc : Region.chainB md ops n = true) (hn : n < ops.size) (hin : i < n) (hdone : ∀ listed a, L listed a → ∀ j ∈ Region.ready md ops listed, n ≤ j) :
    ∀ (f : Nat) (listed : Array Bool) (a : Act), HeadInv md ops n listed →
      (∀ j oj, ops[j]? = some oj → j ≠ i → listed.getD j true = false → (∀ e ∈ oj.after, Region.binds md e = true → e.on ≠ i) → oi.apart ops oj = true) →
      i ∈ Region.ready md ops listed → YieldsIn P ops C oi v a →
      headQ P md ops C n L f (listed.setIfInBounds i true) (a.put oi.dst v) → headQ P md ops C n L (f + 1) listed a := by
  intro f
  induction f with
  | zero =>
    intro listed a inv _ hr hy H
    refine ⟨fun h => (by rw [h] at hr; cases hr), fun j hj => ?_⟩
    have hjn : j < n := Nat.lt_of_not_le fun h => tail_waits hs hc hn inv _ i rfl hin (mem_ready.1 hr).1 j h hj
    by_cases hji : j = i
    · subst hji
      exact ⟨hjn, hy.qOp hi H⟩
    · have := hdone _ _ H j (ready_mono hj hji)
      omega
  | succ f ih =>
    intro listed a inv hfree hr hy H
    refine ⟨fun h => (by rw [h] at hr; cases hr), fun j hj => ?_⟩
    have hjn : j < n := Nat.lt_of_not_le fun h => tail_waits hs hc hn inv _ i rfl hin (mem_ready.1 hr).1 j h hj
    by_cases hji : j = i
    · subst hji
      exact ⟨hjn, hy.qOp hi H⟩
    · obtain ⟨hjun, oj, hoj, hall⟩ := mem_ready.1 hj
      have hnot : ∀ e ∈ oj.after, Region.binds md e = true → e.on ≠ i := fun e he hb heq => by
        have h1 := hall e he hb
        rw [heq, getD_both (mem_ready.1 hr).1] at h1
        cases h1
      refine ⟨hjn, qOp_mono (fun a' h3 => ih (listed.setIfInBounds j true) a' (inv.set hj hjn) (fun k ok hk hki hun hno => ?_) (ready_mono hr (Ne.symm hji)) h3.1 ?_)
        (qOp_put hoj (hfree j oj hoj hji hjun hnot) (fun cs b => hsel i oi cs b hi) (fun cs b => hsel j oj cs b hoj) hy (H.2 j (ready_mono hj hji)).2)⟩
      · refine hfree k ok hk hki ?_ hno
        by_cases hjk : j = k
        · subst hjk
          exact hjun
        · rwa [getD_set_ne true hjk] at hun
      · rw [Array.setIfInBounds_comm _ _ hji]
        exact h3.2
theorem headQ_lex {n g : Nat} {Lq : Act → Prop} (hsel : Region.noSelect ops = true) (hs : Region.sinkB md ops n = true) (hc : Region.chainB md ops n = true) (hn : n < ops.size) :
    ∀ (l : List Oper) (k : Nat) (listed : Array Bool) (a : Act), (∀ j, j < l.length → l[j]? = ops[k + j]?) → k + l.length = n → HeadInv md ops n listed →
    Region.lexHead md ops g l.length k listed = true → wpQuiet P ops C Lq l a → headQ P md ops C n (fun listed' a' => Region.seqB md ops g n listed' = true ∧ Lq a') l.length listed a
  | [], k, listed, a, _, hk, _, hB, h => by
    obtain rfl : k = n := by simpa using hk
    exact ⟨by simpa [Region.lexHead] using hB, h⟩
  | o :: l, k, listed, a, hl, hk, inv, hB, h => by
    have h0 : ops[k]? = some o := by simpa using (hl 0 (by simp)).symm
    simp only [List.length_cons, Region.lexHead, Bool.and_eq_true] at hB
    obtain ⟨⟨hr, hf⟩, hB'⟩ := hB
    simp only [List.length_cons] at hk
    have hkn : k < n := by omega
    have hr' : k ∈ Region.ready md ops listed := by simpa using hr
    have hst : qOp P ops C k (wpQuiet P ops C Lq l) a := by
      unfold qOp
      simp only [h0]
      exact h
    obtain ⟨v, hy, hK⟩ := yieldsIn_of_qOp h0 hst
    exact headQ_first h0 (Region.noSelect_spec hsel) hs hc hn hkn (fun listed' a' hL => seqB_ready hL.1) l.length listed a inv (Region.free_spec h0 hf) hr' hy
      (headQ_lex hsel hs hc hn l (k + 1) _ _ (fun j hj => by have := hl (j + 1) (by simpa using hj); simpa [Nat.add_assoc, Nat.add_comm 1 j] using this) (by omega) (inv.set hr' hkn) hB' hK)
theorem region_quiet_tail {id : Nat} {Q : Exit → Act → World → Prop} {a : Act} {w : World} {l : List Oper} (n : Nat) (C : World → Prop) (hm : P.follows .mixedOrders = true) (hB : Region.lexTailB .any l.toArray n = true) (hC : C w.drew)
    (h : wpQuiet P l.toArray C (fun a' => ∀ w', C w' → wpList P l.toArray Q (l.drop n) a' w') (l.take n) a) : (Code.region id l.toArray true).wp P Q a w := by
  simp only [Region.lexTailB, Bool.and_eq_true, decide_eq_true_eq] at hB
  obtain ⟨⟨⟨⟨hsel, hn⟩, hs⟩, hc⟩, hlex⟩ := hB
  have htl : (l.take n).length = n := by simp at hn ⊢; omega
  have hdl : (l.drop n).length = l.toArray.size - n := by simp
  have inv0 : HeadInv .any l.toArray n (Array.replicate l.toArray.size false) :=
    ⟨by simp, fun j oj _ hl => (by rw [getD_replicate_false] at hl; cases hl), fun t _ ht => getD_in (by simpa using ht) (getD_replicate_false _ _)⟩
  have H := headQ_lex (md := .any) (g := l.toArray.size - n) hsel hs hc hn (l.take n) 0 _ a (fun j hj => by
    have hj' : j < n := by rw [htl] at hj; exact hj
    simp [hj']) (by simpa using htl) inv0 (by rw [htl]; exact hlex) h
  refine wp_region_any hm ?_
  have := any_of_headQ (Q' := Q) (g := l.toArray.size - n) (fun listed a' w' hw' hL => by
    have := wpAny_of_seq (md := .any) (Q' := Q) (l.drop n) n listed a' w' (fun j => by simp [List.getElem?_drop]) (by rw [hdl]; exact hL.1) (hL.2 w' hw')
    rwa [hdl] at this) _ _ _ _ hC H
  rw [htl, show n + (l.toArray.size - n) = l.toArray.size from by omega] at this
  exact this
theorem q_op {Q : Act → Prop} {o : Oper} {rest : List Oper} {a : Act} (v : Value) (hg : o.guard = none) (h : ∀ W, C W → o.quietAt P a C W v) (hk : wpQuiet P ops C Q rest (a.put o.dst v)) : wpQuiet P ops C Q (o :: rest) a := by
  unfold wpQuiet
  rw [if_pos (by simp [Region.wanted, hg])]
  exact ⟨v, h, hk⟩
end
end Go.Proofs.YtphpdfcblchpnaaH
namespace Go.Proofs.YtphpdfcblchpnaaH
set_option linter.unusedSimpArgs false
open Go.RowKit Go.Shelf Go.Lib Go.Sort Go.Proofs.Ytphpdfcblchpnaa.Q Go.Proofs.YtphpdfcblchpnaaW.PrintWords Go.Proofs.YtphpdfcblchpnaaW.PrintLast
def wdOf (k : Nat) (l : List S26) (x y : Int) : Int := (impl_width.f k l x y).getD 0
def mostOf (k : Nat) (l dirs : List S26) : Int := dirs.foldl (fun m d => mn m (wdOf k l d.f0 d.f1)) (wdOf k l (dirs.getD 0 z26).f0 (dirs.getD 0 z26).f1)
theorem width_total {k : Nat} {l : List S26} (hw : ∀ x y, (impl_width.f k l x y).isSome = true) (A0 : Option Addr) (c0 : Nat) (x y : Int) (w : World) (hr0 : Kd.C k26 w A0 l.length l) (hc0 : l.length ≤ c0) :
    Calls Try.prog 261 #[.slice A0 l.length c0, .agg #[.int .i64 x, .int .i64 y]] w fun e w' => e = .returned (.int .i64 (wdOf k l x y)) ∧ Below w.heap.size w w' := by
  have h := hw x y
  unfold wdOf
  obtain ⟨r, hr⟩ := Option.isSome_iff_exists.1 h
  rw [hr]
  exact impl_width.calls k A0 c0 l x y r w hr0 hc0 hr
theorem wider {k : Nat} {l : List S26} (hw : ∀ x y, (impl_width.f k l x y).isSome = true) (A0 : Option Addr) (c0 : Nat) (W : World) (bx bm : Nat) (m x y : Int) (hr0 : Kd.C k26 W A0 l.length l) (hc0 : l.length ≤ c0)
    (h1 : W.cell? ⟨bx, 0, none⟩ = some (.slice A0 l.length c0)) (h2 : W.cell? ⟨bm, 0, none⟩ = some (.int .i64 m)) (hx : bx < W.heap.size) (hm : bm < W.heap.size) :
    Calls Try.prog 263 #[.agg #[.int .i64 x, .int .i64 y], .pointer (some ⟨bx, 0, none⟩), .pointer (some ⟨bm, 0, none⟩)] W fun e w' => e = .returned (.bool (decide (m < wdOf k l x y))) ∧ Below W.heap.size W w' := by
  have HR0 := Aside0.mk hr0
  have HC0 := Aside0.mk hc0
  have H1 := Aside0.mk h1
  have H2 := Aside0.mk h2
  have HW := Aside0.mk hw
  clear hr0 hc0 h1 h2 hw
  go_enter Try.func263, Try.ntmps263
  go_wp2
  obtain ⟨Y, hY⟩ : ∃ Y, Y = W.alloc (.cells #[.int .i64 x, .int .i64 y] 26) := ⟨_, rfl⟩
  rw [← hY]
  have y0 : Y.cell? ⟨W.heap.size, 0, none⟩ = some (.int .i64 x) := by rw [hY]; simp
  have y1 : Y.cell? ⟨W.heap.size, 1, none⟩ = some (.int .i64 y) := by rw [hY]; simp
  have hWY : Below W.heap.size W Y := by rw [hY]; exact (Below.refl _ W).alloc (Nat.le_refl _) _
  have hs : W.heap.size < Y.heap.size := by rw [hY]; simp
  clear hY
  have y0 := Aside0.mk y0
  have y1 := Aside0.mk y1
  have y2 := Aside0.mk ((hWY.cell (p := ⟨bx, 0, none⟩) hx).trans H1.out)
  have y3 := Aside0.mk ((hWY.cell (p := ⟨bm, 0, none⟩) hm).trans H2.out)
  have hs1 : bx < Y.heap.size := by omega
  have hs2 : bm < Y.heap.size := by omega
  have HWY := Aside0.mk hWY
  clear hWY
  refine wp_region_quiet (C := fun X => Below Y.heap.size Y X) (by kernel_rfl) (by kernel_rfl) (Below.drew (Below.refl _ Y)) ?_
  simp only []
  refine q_op (.slice A0 l.length c0) rfl (fun X hX => ?_) ?_
  · have c := (hX.cell (p := ⟨bx, 0, none⟩) hs1).trans y2.out
    go_simp
  refine q_op (.agg #[.int .i64 x, .int .i64 y]) rfl (fun X hX => ?_) ?_
  · have c := (hX.cell (p := ⟨W.heap.size, 0, none⟩) hs).trans y0.out
    have c' := (hX.cell (p := ⟨W.heap.size, 1, none⟩) hs).trans y1.out
    go_simp
  refine q_op (.int .i64 (wdOf k l x y)) rfl (fun X hX => ?_) ?_
  · go_simp
    exact (width_total HW.out A0 c0 _ _ X (Kd.C_below HR0.out (HWY.out.trans (hX.mono HWY.out.size))) HC0.out).mono fun e w' ⟨he, hb⟩ => ⟨he, hX.trans (hb.mono hX.size)⟩
  refine q_op (.int .i64 m) rfl (fun X hX => ?_) ?_
  · have c := (hX.cell (p := ⟨bm, 0, none⟩) hs2).trans y3.out
    go_simp
  refine q_op (.bool (decide (m < wdOf k l x y))) rfl (fun X hX => ?_) ?_
  · go_simp
  refine q_op (.bool (decide (m < wdOf k l x y))) rfl (fun X hX => ?_) ?_
  · go_simp
  refine wpQuiet_nil fun X hX => ?_
  have HX := Aside0.mk hX
  clear hX
  go_wp2
  go_ret
  exact ⟨rfl, HWY.out.trans (HX.out.mono HWY.out.size)⟩
set_option maxRecDepth 100000 in
set_option maxHeartbeats 2000000 in
theorem least_most {k : Nat} {l : List S26} (hw : ∀ x y, (impl_width.f k l x y).isSome = true) (A0 : Option Addr) (c0 : Nat) (w : World) (hr0 : Kd.C k26 w A0 l.length l) (hc0 : l.length ≤ c0) (dirs : List S26)
    (hd : impl_directions.f k l (mn (wdOf k l 1 0) (wdOf k l 0 1)) = some dirs) (hne : 0 < dirs.length) (hlen : dirs.length ≤ 1000000000) :
    Calls Try.prog 222 #[.slice A0 l.length c0] w fun e w' => (∃ v, e = .returned (.tuple #[v, .int .i64 (mostOf k l dirs)])) ∧ Below w.heap.size w w' := by
  have HR0 := Aside0.mk hr0
  have HC0 := Aside0.mk hc0
  have HD := Aside0.mk hd
  have HW := Aside0.mk hw
  clear hr0 hc0 hd hw
  go_enter Try.func222, Try.ntmps222
  go_wp2
  obtain ⟨W, hW⟩ : ∃ W, W = w.alloc (.cells #[.slice A0 l.length c0] 24) := ⟨_, rfl⟩
  rw [← hW]
  have cA : W.cell? ⟨w.heap.size, 0, none⟩ = some (.slice A0 l.length c0) := by rw [hW]; simp
  have hwW : Below w.heap.size w W := by rw [hW]; exact (Below.refl _ w).alloc (Nat.le_refl _) _
  have hs : w.heap.size < W.heap.size := by rw [hW]; simp
  clear hW
  have CA := Aside0.mk cA
  have HWW := Aside0.mk hwW
  have HS := Aside0.mk hs
  clear cA hwW hs
  refine region_quiet_tail 8 (fun V => Below W.heap.size W V) (by kernel_rfl) (by kernel_rfl) (Below.drew (Below.refl _ W)) ?_
  simp only [List.take_succ_cons, List.take_zero, List.drop_succ_cons, List.drop_zero]
  refine q_op (.slice A0 l.length c0) rfl (fun V hV => ?_) ?_
  · have c := (hV.cell (p := ⟨w.heap.size, 0, none⟩) HS.out).trans CA.out
    go_simp
  refine q_op (.slice A0 l.length c0) rfl (fun V hV => ?_) ?_
  · have c := (hV.cell (p := ⟨w.heap.size, 0, none⟩) HS.out).trans CA.out
    go_simp
  refine q_op (.agg #[.int .i64 1, .int .i64 0]) rfl (fun V hV => ?_) ?_
  · go_simp
  refine q_op (.int .i64 (wdOf k l 1 0)) rfl (fun V hV => ?_) ?_
  · go_simp
    exact (width_total HW.out A0 c0 1 0 V (Kd.C_below HR0.out (HWW.out.trans (hV.mono HWW.out.size))) HC0.out).mono fun e w' ⟨he, hb⟩ => ⟨he, hV.trans (hb.mono hV.size)⟩
  refine q_op (.slice A0 l.length c0) rfl (fun V hV => ?_) ?_
  · have c := (hV.cell (p := ⟨w.heap.size, 0, none⟩) HS.out).trans CA.out
    go_simp
  refine q_op (.agg #[.int .i64 0, .int .i64 1]) rfl (fun V hV => ?_) ?_
  · go_simp
  refine q_op (.int .i64 (wdOf k l 0 1)) rfl (fun V hV => ?_) ?_
  · go_simp
    exact (width_total HW.out A0 c0 0 1 V (Kd.C_below HR0.out (HWW.out.trans (hV.mono HWW.out.size))) HC0.out).mono fun e w' ⟨he, hb⟩ => ⟨he, hV.trans (hb.mono hV.size)⟩
  refine q_op (.int .i64 (mn (wdOf k l 1 0) (wdOf k l 0 1))) rfl (fun V hV => ?_) ?_
  · go_simp
    unfold mn
    split <;> omega
  refine wpQuiet_nil fun V hV => ?_
  have hVw := HWW.out.trans (hV.mono HWW.out.size)
  have hdir := impl_directions.calls k A0 c0 l _ dirs V (Kd.C_below HR0.out hVw) HC0.out HD.out
  go_wp2_with (go_at_call 260; refine hdir.mono ?_; rintro e V1 ⟨v1, rfl, hR, hB⟩)
  obtain ⟨g, cap, cur, rfl, hg, hcur, hnc, hcm, hcs, -, hcells⟩ := R_cells hR hne
  have hgl : g < V1.heap.size := (Array.getElem?_eq_some_iff.1 hcur).1
  have hB1 := hVw.trans (hB.mono hVw.size)
  have cA1 : V1.cell? ⟨w.heap.size, 0, none⟩ = some (.slice A0 l.length c0) := ((hB.mono hV.size).cell (p := ⟨w.heap.size, 0, none⟩) HS.out).trans ((hV.cell (p := ⟨w.heap.size, 0, none⟩) HS.out).trans CA.out)
  have cell : ∀ t, t < dirs.length * 2 → V1.cell? ⟨g, t, none⟩ = some ((enc26 (dirs.getD (t / 2) z26))[t % 2]!) := fun t ht => by
    have := hcells t ht
    simp [World.cell?, hcur, this]
  have d0 : V1.cell? ⟨g, 0, none⟩ = some (.int .i64 (dirs.getD 0 z26).f0) := cell 0 (by omega)
  have d1 : V1.cell? ⟨g, 1, none⟩ = some (.int .i64 (dirs.getD 0 z26).f1) := cell 1 (by omega)
  have h0s : w.heap.size < V1.heap.size := Nat.lt_of_lt_of_le HS.out (Nat.le_trans hV.size hB.size)
  have CELL := Aside0.mk cell
  have HB1 := Aside0.mk hB1
  have HCUR := Aside0.mk hcur
  have hB0 := Aside0.mk (Nat.lt_of_lt_of_le HS.out hV.size)
  clear hcells cell hR hdir hV hVw hB hB1 hcur
  have call : ∀ X, Below V1.heap.size V1 X → Calls Try.prog 261 #[.slice A0 l.length c0, .agg #[.int .i64 (dirs.getD 0 z26).f0, .int .i64 (dirs.getD 0 z26).f1]] X fun e w' => e = .returned (.int .i64 (wdOf k l (dirs.getD 0 z26).f0 (dirs.getD 0 z26).f1)) ∧ Below X.heap.size X w' := fun X hX =>
    width_total HW.out A0 c0 _ _ X (Kd.C_below HR0.out (HB1.out.trans (hX.mono HB1.out.size))) HC0.out
  obtain ⟨p0, hp0⟩ : ∃ p0, dirs.getD 0 z26 = p0 := ⟨_, rfl⟩
  rw [hp0] at call d0 d1
  have HP0 := Lib.hid hp0
  have CALL := Aside0.mk call
  clear call hp0
  go_cut [5] (fun s5 wx => ∃ bm, s5 = .pointer (some ⟨bm, 0, none⟩) ∧ V1.heap.size ≤ bm ∧ bm < wx.heap.size ∧ Aside0 (Below V1.heap.size V1 wx) ∧ wx.cell? ⟨bm, 0, none⟩ = some (.int .i64 (wdOf k l p0.f0 p0.f1)) ∧ wx.frozen? ⟨bm, 0, none⟩ = false)
  case first =>
    go_region_with (go_at_call 261; first
      | (with_reducible refine (CALL.out (V1.drew) (Below.drew (Below.refl _ _))).mono ?_; rintro e w' ⟨rfl, hb⟩)
      | (with_reducible refine (CALL.out (V1.alloc (.cells #[.int .i64 0] 3)).drew (Below.drew ((Below.refl _ _).alloc (Nat.le_refl _) _))).mono ?_; rintro e w' ⟨rfl, hb⟩; have e1 := hb.cell (p := ⟨V1.heap.size, 0, none⟩) (by simp); have e2 := hb.frozen (p := ⟨V1.heap.size, 0, none⟩) (by simp); simp at e1 e2))
    all_goals
      go_wp2_with fail
      go_meet
      first
      | exact ⟨w'.heap.size, rfl, hb.size, by simp, Aside0.mk (((Below.drew (Below.refl _ V1)).trans hb).alloc hb.size _), by simp, by simp⟩
      | exact ⟨V1.heap.size, rfl, Nat.le_refl _, by have := hb.size; simp at this ⊢; omega,
          Aside0.mk (Below.setCell (p := ⟨V1.heap.size, 0, none⟩) ((Below.drew ((Below.refl _ V1).alloc (Nat.le_refl _) _)).trans ⟨hb.os, hb.tape, hb.output, hb.size, fun k hk => hb.block k (by show k < (V1.alloc _).heap.size; simp; omega)⟩) (Nat.le_refl _) _), World.cell?_setCell_same _ _ _ e1, by simp [e2]⟩
  case rest =>
  obtain ⟨bm, rfl, hm1, hm2, hb, hm3, hm4⟩ := hcut
  clear d0 d1
  go_wp2
  go_loopg [7, 24] dirs.length (fun gg _ s24 wr => ∃ j : Nat, s24 = .int .i64 j ∧ j ≤ dirs.length ∧ dirs.length - j ≤ gg ∧ bm < wr.heap.size ∧ Aside0 (Below V1.heap.size V1 wr) ∧
    Aside0 (wr.cell? ⟨bm, 0, none⟩ = some (.int .i64 ((dirs.take j).foldl (fun m d => mn m (wdOf k l d.f0 d.f1)) (wdOf k l p0.f0 p0.f1)))) ∧ Aside0 (wr.frozen? ⟨bm, 0, none⟩ = false))
  case atStart => exact ⟨0, rfl, Nat.zero_le _, by omega, hm2, hb, Aside0.mk hm3, Aside0.mk hm4⟩
  case round =>
    obtain ⟨j, rfl, hj, hgg, hbl, HBW, M3, M4⟩ := hrel
    by_cases hlt : j < dirs.length
    · have hltz : (j : Int) < (dirs.length : Int) := by omega
      obtain ⟨p, hp⟩ : ∃ p, dirs.getD j z26 = p := ⟨_, rfl⟩
      have x0 : wr.cell? ⟨g, j * 2, none⟩ = some (.int .i64 p.f0) := by
        rw [HBW.out.cell (p := ⟨g, j * 2, none⟩) hgl, CELL.out (j * 2) (by omega), show j * 2 / 2 = j from by omega, show j * 2 % 2 = 0 from by omega, hp]
        rfl
      have x1 : wr.cell? ⟨g, j * 2 + 1, none⟩ = some (.int .i64 p.f1) := by
        rw [HBW.out.cell (p := ⟨g, j * 2 + 1, none⟩) hgl, CELL.out (j * 2 + 1) (by omega), show (j * 2 + 1) / 2 = j from by omega, show (j * 2 + 1) % 2 = 1 from by omega, hp]
        rfl
      have htake : dirs.take (j + 1) = dirs.take j ++ [p] := by
        rw [List.take_add_one]
        congr 1
        rw [← hp]
        simp [List.getD, hlt]
      have HT := Lib.hid htake
      clear htake hp
      go_wp2
      obtain ⟨Y, hY⟩ : ∃ Y, Y = wr.alloc (.cells #[.int .i64 p.f0, .int .i64 p.f1] 26) := ⟨_, rfl⟩
      rw [← hY]
      have y0 : Y.cell? ⟨wr.heap.size, 0, none⟩ = some (.int .i64 p.f0) := by rw [hY]; simp
      have y1 : Y.cell? ⟨wr.heap.size, 1, none⟩ = some (.int .i64 p.f1) := by rw [hY]; simp
      have hrY : Below wr.heap.size wr Y := by rw [hY]; exact (Below.refl _ wr).alloc (Nat.le_refl _) _
      have hrs : wr.heap.size < Y.heap.size := by rw [hY]; simp
      have y2 : Y.cell? ⟨bm, 0, none⟩ = some (.int .i64 ((dirs.take j).foldl (fun m d => mn m (wdOf k l d.f0 d.f1)) (wdOf k l p0.f0 p0.f1))) := (hrY.cell (p := ⟨bm, 0, none⟩) hbl).trans M3.out
      have y3 : Y.frozen? ⟨bm, 0, none⟩ = false := (hrY.frozen (p := ⟨bm, 0, none⟩) hbl).trans M4.out
      have hbY := HBW.out.trans (hrY.mono HBW.out.size)
      have y4 : Y.cell? ⟨w.heap.size, 0, none⟩ = some (.slice A0 l.length c0) := (hbY.cell (p := ⟨w.heap.size, 0, none⟩) h0s).trans cA1
      have hs0 : w.heap.size < Y.heap.size := by omega
      have hs1 : bm < Y.heap.size := by omega
      clear hY x0 x1
      have y0 := Aside0.mk y0
      have y1 := Aside0.mk y1
      have y2 := Aside0.mk y2
      have y3 := Aside0.mk y3
      have y4 := Aside0.mk y4
      have hbY := Aside0.mk hbY
      generalize hfold : (dirs.take j).foldl (fun m d => mn m (wdOf k l d.f0 d.f1)) (wdOf k l p0.f0 p0.f1) = m at y2
      have HF := Lib.hid hfold
      clear hfold M3 M4 hrY
      refine region_quiet_tail 5 (fun X => Below Y.heap.size Y X) (by kernel_rfl) (by kernel_rfl) (Below.drew (Below.refl _ Y)) ?_
      simp only [List.take_succ_cons, List.take_zero, List.drop_succ_cons, List.drop_zero]
      refine q_op (.int .i64 m) rfl (fun X hX => ?_) ?_
      · have c := (hX.cell (p := ⟨bm, 0, none⟩) hs1).trans y2.out
        go_simp
      refine q_op (.slice A0 l.length c0) rfl (fun X hX => ?_) ?_
      · have c := (hX.cell (p := ⟨w.heap.size, 0, none⟩) hs0).trans y4.out
        go_simp
      refine q_op (.agg #[.int .i64 p.f0, .int .i64 p.f1]) rfl (fun X hX => ?_) ?_
      · have c := (hX.cell (p := ⟨wr.heap.size, 0, none⟩) hrs).trans y0.out
        have c' := (hX.cell (p := ⟨wr.heap.size, 1, none⟩) hrs).trans y1.out
        go_simp
      refine q_op (.int .i64 (wdOf k l p.f0 p.f1)) rfl (fun X hX => ?_) ?_
      · go_simp
        have hX1 := HB1.out.trans ((hbY.out.trans (hX.mono hbY.out.size)).mono HB1.out.size)
        exact (width_total HW.out A0 c0 _ _ X (Kd.C_below HR0.out hX1) HC0.out).mono fun e w' ⟨he, hb⟩ => ⟨he, hX.trans (hb.mono hX.size)⟩
      refine q_op (.int .i64 (mn m (wdOf k l p.f0 p.f1))) rfl (fun X hX => ?_) ?_
      · go_simp
        unfold mn
        split <;> omega
      refine wpQuiet_nil fun X hX => ?_
      have z1 := (hX.cell (p := ⟨bm, 0, none⟩) hs1).trans y2.out
      have z2 := (hX.frozen (p := ⟨bm, 0, none⟩) hs1).trans y3.out
      have HX := Aside0.mk hX
      clear hX
      go_wp2
      go_roundg (dirs.length - (j + 1))
      case measure => omega
      case rel =>
        refine ⟨j + 1, by go_num, by omega, by omega, ?_, Aside0.mk (Below.setCell (p := ⟨bm, 0, none⟩) (hbY.out.trans (HX.out.mono hbY.out.size)) hm1 _), Aside0.mk ?_, Aside0.mk ?_⟩
        · have := HX.out.size
          simp
          omega
        · rw [HT.out, List.foldl_append, HF.out]
          exact World.cell?_setCell_same _ _ _ z1
        · simp [z2]
    · obtain rfl : j = dirs.length := by omega
      have hltz : ¬ (dirs.length : Int) < (dirs.length : Int) := by omega
      rw [List.take_length, show dirs.foldl (fun m d => mn m (wdOf k l d.f0 d.f1)) (wdOf k l p0.f0 p0.f1) = mostOf k l dirs from by unfold mostOf; rw [HP0.out]] at M3
      go_wp2
      have eg : ∀ args w, (callFunc 263 args).run Try.prog w = .ok (.enter 263 args) w := enters_of Try.func263 (by kernel_rfl) rfl
      have hVg0 : w.heap.size < g := Nat.lt_of_lt_of_le hB0.out hg
      have hVg : w.heap.size ≤ g := Nat.le_of_lt hVg0
      have hrow : Row wr.drew g dirs.length := by
        refine ⟨cur, (HBW.out.block g hgl).trans HCUR.out, by omega, fun t ht => ?_⟩
        have h := CELL.out t ht
        have h2 : V1.cell? ⟨g, t, none⟩ = cur[t]? := by simp [World.cell?, HCUR.out]
        rw [h2] at h
        rcases (show t % 2 = 0 ∨ t % 2 = 1 from by omega) with e | e
        · rw [e] at h
          exact ⟨_, h⟩
        · rw [e] at h
          exact ⟨_, h⟩
      have hpred : PredBack 263 #[.pointer (some ⟨w.heap.size, 0, none⟩), .pointer (some ⟨bm, 0, none⟩)] wr.drew g := by
        intro X hX x y
        have hwr : Below w.heap.size w wr.drew := Below.drew (HB1.out.trans (HBW.out.mono HB1.out.size))
        have hgb : g ≠ bm := by omega
        have hgx : g ≠ w.heap.size := by omega
        have b1 : w.heap.size < wr.drew.heap.size := Nat.lt_of_lt_of_le h0s HBW.out.size
        refine ⟨_, wider HW.out A0 c0 X w.heap.size bm (mostOf k l dirs) x y (Kd.C_below HR0.out (hwr.grown hX (Nat.le_of_lt b1) (fun j hj => by cases hj; exact hVg))) HC0.out ?_ ?_ (Nat.lt_of_lt_of_le b1 hX.size) (Nat.lt_of_lt_of_le hbl hX.size)⟩
        · refine hX.cell ?_ (by simpa using (Ne.symm hgx))
          exact (HBW.out.cell (p := ⟨w.heap.size, 0, none⟩) h0s).trans cA1
        · refine hX.cell ?_ (by simpa using (Ne.symm hgb))
          exact M3.out
      have hdel := del_weak 263 #[.pointer (some ⟨w.heap.size, 0, none⟩), .pointer (some ⟨bm, 0, none⟩)] eg g dirs.length cap wr.drew hlen hnc hrow hpred
      have hbl2 : g ≠ bm := by omega
      have M3' := M3.out
      have hdel2 : Calls Try.prog 262 #[.slice (some ⟨g, 0, none⟩) dirs.length cap, .func (.func 263) #[] #[.pointer (some ⟨w.heap.size, 0, none⟩), .pointer (some ⟨bm, 0, none⟩)]] wr.drew fun e w' => ∃ v : Value, e = .returned v ∧ Aside0 (wr.drew.grownBy w' (some g)) ∧ w'.cell? ⟨bm, 0, none⟩ = some (.int .i64 (mostOf k l dirs)) :=
        hdel.mono fun e w' ⟨⟨v, hv⟩, hg⟩ => ⟨v, hv, Aside0.mk hg, hg.cell (a := ⟨bm, 0, none⟩) M3' (by simpa using (Ne.symm hbl2))⟩
      clear hdel hpred hrow
      go_region_with (go_at_call 262; refine hdel2.mono ?_; rintro e w' ⟨v, rfl, hg', hm'⟩)
      all_goals
        go_wp2
        go_ret2
        exact ⟨⟨_, rfl⟩, (Below.drew (HB1.out.trans (HBW.out.mono HB1.out.size))).grown hg'.out (Nat.le_of_lt (Nat.lt_of_lt_of_le h0s HBW.out.size)) (fun j hj => by cases hj; exact hVg)⟩
end Go.Proofs.YtphpdfcblchpnaaH
