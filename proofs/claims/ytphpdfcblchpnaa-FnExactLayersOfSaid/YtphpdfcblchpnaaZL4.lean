/- Parts of the proof: printed texts, words and own texts, cut to what is used. -/
import Derived.BigQuiet
import Derived.Deep.QuietTactic
import Derived.KernelRfl
import Derived.Lib.Hide
import Derived.Shelf.SlLaysF0
import Derived.Shelf.SlSortCmp.WholeK
import Derived.StillTailTactics
import Derived.Test.YtphpdfcblchpnaaProg
import Derived.WalkKit
import Derived.Test.YtphpdfcblchpnaaZL3
namespace Go.Proofs.YtphpdfcblchpnaaH
set_option linter.unusedSimpArgs false
open Go.RowKit Go.Shelf Go.Lib Go.Sort
def cmp3 (x y : Int) : Int := if x < y then -1 else if y < x then 1 else 0
theorem isNaN_any (x : Int) (w : World) : Calls Try.prog 258 #[.int .i64 x] w fun e w' => e = .returned (.bool false) ∧ w' = w := by
  go_enter Try.func258, Try.ntmps258
  go_wp2
  go_ret
  exact ⟨by simp, rfl⟩
theorem compare_any (x y : Int) (w : World) : Calls Try.prog 218 #[.int .i64 x, .int .i64 y] w fun e w' => e = .returned (.int .i64 (cmp3 x y)) ∧ w' = w := by
  unfold cmp3
  by_cases h1 : x < y
  · go_enter Try.func218, Try.ntmps218
    go_wp2_with (go_at_call 258; refine (isNaN_any _ _).mono ?_; rintro e w' ⟨rfl, rfl⟩)
    go_ret
    exact ⟨by simp [h1], rfl⟩
  · by_cases h2 : y < x
    · go_enter Try.func218, Try.ntmps218
      go_wp2_with (go_at_call 258; refine (isNaN_any _ _).mono ?_; rintro e w' ⟨rfl, rfl⟩)
      go_ret
      exact ⟨by simp [h1, h2], rfl⟩
    · go_enter Try.func218, Try.ntmps218
      go_wp2_with (go_at_call 258; refine (isNaN_any _ _).mono ?_; rintro e w' ⟨rfl, rfl⟩)
      go_ret
      exact ⟨by simp [h1, h2], rfl⟩
theorem or_any (b : Nat) (x y : Int) (w : World) (h0 : w.cell? ⟨b, 0, none⟩ = some (.int .i64 x)) (h1 : w.cell? ⟨b, 1, none⟩ = some (.int .i64 y)) :
    Calls Try.prog 217 #[.slice (some ⟨b, 0, none⟩) 2 2] w fun e w' => e = .returned (.int .i64 (if x = 0 then y else x)) ∧ w' = w := by
  by_cases hx : x = 0
  · subst hx
    by_cases hy : y = 0
    · subst hy
      go_enter Try.func217, Try.ntmps217
      go_wp2
      go_loop [5, 8] (fun v i => ∃ k : Nat, k ≤ 2 ∧ i = .int .i64 k) (fun _ i => 2 - (intOf i).toNat)
      case atStart => exact ⟨0, by omega, rfl⟩
      case round =>
        obtain ⟨k, hk, rfl⟩ := hrel
        rcases (show k = 0 ∨ k = 1 ∨ k = 2 by omega) with rfl | rfl | rfl
        · go_wp2
          go_round
          case rel => exact ⟨1, by omega, rfl⟩
          case measure => simp [intOf]
        · go_wp2
          go_round
          case rel => exact ⟨2, by omega, rfl⟩
          case measure => simp [intOf]
        · go_wp2
          go_ret
          exact ⟨rfl, rfl⟩
    · have hb : (y != 0) = true := by simp [hy]
      have HY := Lib.hid hy
      clear hy
      go_enter Try.func217, Try.ntmps217
      go_wp2
      go_loop [5, 8] (fun _ i => ∃ k : Nat, k ≤ 1 ∧ i = .int .i64 k) (fun _ i => 2 - (intOf i).toNat)
      case atStart => exact ⟨0, by omega, rfl⟩
      case round =>
        obtain ⟨k, hk, rfl⟩ := hrel
        rcases (show k = 0 ∨ k = 1 by omega) with rfl | rfl
        · go_wp2
          go_round
          case rel => exact ⟨1, by omega, rfl⟩
          case measure => simp [intOf]
        · go_wp2
          go_ret
          exact ⟨by simp, rfl⟩
  · have hb : (x != 0) = true := by simp [hx]
    have HX := Lib.hid hx
    clear hx
    go_enter Try.func217, Try.ntmps217
    go_wp2
    go_loop [5, 8] (fun _ i => i = .int .i64 0) (fun _ i => 2 - (intOf i).toNat)
    case atStart => exact rfl
    case round =>
      obtain rfl := hrel
      go_wp2
      go_ret
      exact ⟨by first | rfl | (simp; done) | (simp [HX.out]; done), rfl⟩
def cmpPg (x1 y1 x2 y2 : Int) : Int := if cmp3 x1 x2 = 0 then cmp3 y1 y2 else cmp3 x1 x2
set_option maxRecDepth 100000 in
theorem comparePegs_grow (x1 y1 x2 y2 : Int) (w : World) : Calls Try.prog 249 #[.agg #[.int .i64 x1, .int .i64 y1], .agg #[.int .i64 x2, .int .i64 y2]] w fun e w' => e = .returned (.int .i64 (cmpPg x1 y1 x2 y2)) ∧ ∃ q os, w' = grow (w.drewN q) os := by
  unfold cmpPg
  generalize hc1 : cmp3 x1 x2 = c1
  generalize hc2 : cmp3 y1 y2 = c2
  have HC1 := Lib.hid hc1
  have HC2 := Lib.hid hc2
  clear hc1 hc2
  go_enter Try.func249, Try.ntmps249
  go_wp2
  obtain ⟨W, hW⟩ : ∃ W, W = (w.alloc (.cells #[.int .i64 x1, .int .i64 y1] 26)).alloc (.cells #[.int .i64 x2, .int .i64 y2] 26) := ⟨_, rfl⟩
  rw [← hW]
  have a0 : W.cell? ⟨w.heap.size, 0, none⟩ = some (.int .i64 x1) := by rw [hW]; simp
  have a1 : W.cell? ⟨w.heap.size, 1, none⟩ = some (.int .i64 y1) := by rw [hW]; simp
  have b0 : W.cell? ⟨w.heap.size + 1, 0, none⟩ = some (.int .i64 x2) := by rw [hW]; simp
  have b1 : W.cell? ⟨w.heap.size + 1, 1, none⟩ = some (.int .i64 y2) := by rw [hW]; simp
  have HW := Lib.hid hW
  clear hW
  refine wp_region_still_tail 10 (by kernel_rfl) (by kernel_rfl) ?_
  simp only [List.take_succ_cons, List.take_zero, List.drop_succ_cons, List.drop_zero]
  still_step
  still_step
  still_step
  still_step
  still_call (compare_any _ _ _)
  still_step
  still_step
  still_step
  still_step
  still_call (compare_any _ _ _)
  refine wpStill_nil ?_
  rw [HC1.out, HC2.out]
  change wpList _ _ _ _ _ W.drew
  obtain ⟨V, hV⟩ : ∃ V, V = W.drew := ⟨_, rfl⟩
  rw [← hV]
  have HV := Lib.hid hV
  clear hV
  go_wp2_with (go_at_call 217; refine (or_any _ c1 c2 _ (by simp) (by simp)).mono ?_; rintro e w' ⟨rfl, rfl⟩)
  all_goals
    go_ret
    first
    | (refine ⟨rfl, 1, #[.cells #[.int .i64 x1, .int .i64 y1] 26, .cells #[.int .i64 x2, .int .i64 y2] 26, .cells #[.int .i64 0, .int .i64 c2] 3], ?_⟩; rw [HV.out, HW.out]; rfl)
    | (refine ⟨rfl, 1, #[.cells #[.int .i64 x1, .int .i64 y1] 26, .cells #[.int .i64 x2, .int .i64 y2] 26, .cells #[.int .i64 c1, .int .i64 c2] 3], ?_⟩; rw [HV.out, HW.out]; rfl)
def srt_ren : Go.Shelf.Ren := ⟨fun | 6 => 215 | 15 => 257 | 14 => 256 | 28 => 285 | 29 => 286 | 20 => 277 | 21 => 278 | 22 => 279 | 23 => 280 | 24 => 281 | 25 => 282 | 26 => 283 | 27 => 284 | 46 => 293 | 47 => 294 | 48 => 295 | 49 => 296 | 50 => 297 | 57 => 300 | n => n, fun | 22 => 24 | 24 => 26 | 25 => 130 | 3 => 3 | 39 => 164 | 0 => 0 | 53 => 181 | 55 => 111 | 4 => 4 | 46 => 175 | 45 => 174 | 50 => 33 | 5 => 5 | 9 => 9 | 66 => 187 | 70 => 191 | 76 => 193 | 77 => 183 | n => n, fun | n => n⟩
theorem srt : Go.Proofs.SlLaysF0.n6 Try.prog srt_ren := {
  mixed := by kernel_rfl,
  f6 := ⟨Try.f215.name, by decide, Try.func215.trans (congrArg some (by kernel_rfl))⟩,
  f14 := ⟨Try.f256.name, by decide, Try.func256.trans (congrArg some (by kernel_rfl))⟩,
  f15 := Try.func257.trans (congrArg some (by kernel_rfl)),
  f20 := ⟨Try.f277.name, by decide, Try.func277.trans (congrArg some (by kernel_rfl))⟩,
  f21 := ⟨Try.f278.name, by decide, Try.func278.trans (congrArg some (by kernel_rfl))⟩,
  f22 := ⟨Try.f279.name, by decide, Try.func279.trans (congrArg some (by kernel_rfl))⟩,
  f23 := ⟨Try.f280.name, by decide, Try.func280.trans (congrArg some (by kernel_rfl))⟩,
  f24 := ⟨Try.f281.name, by decide, Try.func281.trans (congrArg some (by kernel_rfl))⟩,
  f25 := ⟨Try.f282.name, by decide, Try.func282.trans (congrArg some (by kernel_rfl))⟩,
  f26 := ⟨Try.f283.name, by decide, Try.func283.trans (congrArg some (by kernel_rfl))⟩,
  f27 := ⟨Try.f284.name, by decide, Try.func284.trans (congrArg some (by kernel_rfl))⟩,
  f28 := Try.func285.trans (congrArg some (by kernel_rfl)),
  f29 := Try.func286.trans (congrArg some (by kernel_rfl)),
  f46 := ⟨Try.f293.name, by decide, Try.func293.trans (congrArg some (by kernel_rfl))⟩,
  f47 := Try.func294.trans (congrArg some (by kernel_rfl)),
  f48 := Try.func295.trans (congrArg some (by kernel_rfl)),
  f49 := ⟨Try.f296.name, by decide, Try.func296.trans (congrArg some (by kernel_rfl))⟩,
  f50 := ⟨Try.f297.name, by decide, Try.func297.trans (congrArg some (by kernel_rfl))⟩,
  f57 := ⟨Try.f300.name, by decide, Try.func300.trans (congrArg some (by kernel_rfl))⟩,
  t0 := Try.underlying0,
  a0 := Try.isAgg0,
  z0 := Try.sizeOf0,
  v0 := Try.zeroValue0,
  t3 := Try.underlying3,
  a3 := Try.isAgg3,
  z3 := Try.sizeOf3,
  v3 := Try.zeroValue3,
  t4 := Try.underlying4,
  a4 := Try.isAgg4,
  z4 := Try.sizeOf4,
  v4 := Try.zeroValue4,
  t5 := Try.underlying5,
  a5 := Try.isAgg5,
  z5 := Try.sizeOf5,
  v5 := Try.zeroValue5,
  t9 := Try.underlying9,
  a9 := Try.isAgg9,
  z9 := Try.sizeOf9,
  v9 := Try.zeroValue9,
  t22 := Try.underlying24,
  a22 := Try.isAgg24,
  z22 := Try.sizeOf24,
  v22 := Try.zeroValue24,
  t25 := Try.underlying130,
  a25 := Try.isAgg130,
  z25 := Try.sizeOf130,
  v25 := Try.zeroValue130,
  t39 := Try.underlying164,
  a39 := Try.isAgg164,
  z39 := Try.sizeOf164,
  v39 := Try.zeroValue164,
  t45 := Try.underlying174,
  a45 := Try.isAgg174,
  z45 := Try.sizeOf174,
  v45 := Try.zeroValue174,
  t46 := Try.underlying175,
  a46 := Try.isAgg175,
  z46 := Try.sizeOf175,
  v46 := Try.zeroValue175,
  t50 := Try.underlying33,
  a50 := Try.isAgg33,
  z50 := Try.sizeOf33,
  v50 := Try.zeroValue33,
  t53 := Try.underlying181,
  a53 := Try.isAgg181,
  z53 := Try.sizeOf181,
  v53 := Try.zeroValue181,
  t55 := Try.underlying111,
  a55 := Try.isAgg111,
  z55 := Try.sizeOf111,
  v55 := Try.zeroValue111,
  t66 := Try.underlying187,
  a66 := Try.isAgg187,
  z66 := Try.sizeOf187,
  v66 := Try.zeroValue187,
  t70 := Try.underlying191,
  a70 := Try.isAgg191,
  z70 := Try.sizeOf191,
  v70 := Try.zeroValue191,
  t76 := Try.underlying193,
  a76 := Try.isAgg193,
  z76 := Try.sizeOf193,
  v76 := Try.zeroValue193,
  t77 := Try.underlying183,
  a77 := Try.isAgg183,
  z77 := Try.sizeOf183,
  v77 := Try.zeroValue183 }
end Go.Proofs.YtphpdfcblchpnaaH
namespace Go.Proofs.YtphpdfcblchpnaaH
open Go.RowKit Go.Shelf Go.Lib Go.Sort Go.Proofs.Ytphpdfcblchpnaa.Q Go.Proofs.YtphpdfcblchpnaaW.PrintWords Go.Proofs.YtphpdfcblchpnaaW.PrintLast
instance : Inhabited S26 := ⟨z26⟩
def enc26 (s : S26) : List Value := [.int .i64 s.f0, .int .i64 s.f1]
theorem flat_get (d : List S26) (t : Nat) (h : t < d.length * 2) : (flatK enc26 2 d.toArray)[t]! = (enc26 (d.getD (t / 2) z26))[t % 2]! := by
  rw [get_flatK _ _ _ _ (by simpa using h)]
  congr 2
  have h2 : t / 2 < d.length := by omega
  rw [getElem!_pos _ _ (by simpa using h2)]
  simp [List.getD, h2]
theorem R_cells {w : World} {base : Nat} {ok : Nat → Prop} {v : Value} {xs : List S26} (h : Kd.R k26 26 w base ok v xs) (hp : 0 < xs.length) :
    ∃ g cap cur, v = .slice (some ⟨g, 0, none⟩) xs.length cap ∧ base ≤ g ∧ w.heap[g]? = some (.cells cur 26 (0, 0)) ∧ xs.length ≤ cap ∧ cap ≤ maxLen ∧ cur.size = cap * 2 ∧ ok g ∧
      ∀ t, t < xs.length * 2 → cur[t]? = some ((enc26 (xs.getD (t / 2) z26))[t % 2]!) := by
  obtain ⟨hok, inner, ho, hr⟩ := h
  rcases ho.2 with ⟨_, h0⟩ | ⟨g, cap, cur, rfl, hb, hh, hnc, hcm, hcs, ht⟩
  · omega
  · have hcs : cur.size = cap * 2 := hcs
    refine ⟨g, cap, cur, rfl, hb, hh, hnc, hcm, hcs, hok g (by simp [Value.ownBlock]), fun t htl => ?_⟩
    have hj : t / 2 < xs.length := by omega
    have h3 := hr.2 (t / 2) (xs[t / 2]) (List.getElem?_eq_getElem hj)
    have h4 := k26_openM h3
    have hi : inner.length = xs.length * 2 := hr.1
    have e1 : inner[t]? = some ((enc26 (xs.getD (t / 2) z26))[t % 2]!) := by
      have e2 : ((inner.drop (t / 2 * 2)).take 2)[t % 2]? = inner[t]? := by
        rw [List.getElem?_take, if_pos (by omega), List.getElem?_drop]
        congr 1
        omega
      rw [← e2]
      have e3 : (inner.drop (t / 2 * k26.sz)).take k26.sz = (inner.drop (t / 2 * 2)).take 2 := rfl
      rw [← e3, h4]
      have e4 : xs.getD (t / 2) z26 = xs[t / 2] := by simp [List.getD, hj]
      rw [e4]
      unfold enc26
      rcases (show t % 2 = 0 ∨ t % 2 = 1 by omega) with hm | hm <;> rw [hm] <;> rfl
    rw [← e1, ← ht]
    have hlt : t < cur.size := by
      have : xs.length * 2 ≤ cap * 2 := Nat.mul_le_mul_right _ hnc
      omega
    rw [List.getElem?_take, if_pos (by show t < xs.length * 2; exact htl)]
    simp [Array.getElem?_toList]
theorem R_of_cells {w : World} {base : Nat} {ok : Nat → Prop} {ys : List S26} {g cap : Nat} {cur : Array Value} (hb : base ≤ g) (hh : w.heap[g]? = some (.cells cur 26 (0, 0))) (hnc : ys.length ≤ cap) (hcm : cap ≤ maxLen) (hcs : cur.size = cap * 2) (hok : ok g)
    (hc : ∀ t, t < ys.length * 2 → cur[t]? = some ((enc26 (ys.getD (t / 2) z26))[t % 2]!)) : Kd.R k26 26 w base ok (.slice (some ⟨g, 0, none⟩) ys.length cap) ys := by
  have hlen : (cur.toList.take (ys.length * 2)).length = ys.length * 2 := by
    have h1 : cur.toList.length = cur.size := by simp
    have : ys.length * 2 ≤ cap * 2 := Nat.mul_le_mul_right _ hnc
    rw [List.length_take, h1]
    omega
  refine ⟨fun k hk => ?_, cur.toList.take (ys.length * 2), ⟨hlen, .inr ⟨g, cap, cur, rfl, hb, hh, hnc, hcm, hcs, rfl⟩⟩, hlen, fun j p hj => ?_⟩
  · have : g = k := by simpa [Value.ownBlock] using hk
    subst this
    exact hok
  · obtain ⟨hjl, rfl⟩ := List.getElem?_eq_some_iff.1 hj
    have e : ((cur.toList.take (ys.length * 2)).drop (j * k26.sz)).take k26.sz = [.int .i64 (ys[j]).f0, .int .i64 (ys[j]).f1] := by
      show ((cur.toList.take (ys.length * 2)).drop (j * 2)).take 2 = _
      have get (i : Nat) (hi : i < 2) : (((cur.toList.take (ys.length * 2)).drop (j * 2)).take 2)[i]? = some ((enc26 ys[j])[i]!) := by
        rw [List.getElem?_take, if_pos hi, List.getElem?_drop, List.getElem?_take, if_pos (by omega)]
        have h := hc (j * 2 + i) (by omega)
        rw [show (j * 2 + i) / 2 = j from by omega, show (j * 2 + i) % 2 = i from by omega] at h
        rw [Array.getElem?_toList, h]
        have e4 : ys.getD j z26 = ys[j] := by simp [List.getD, hjl]
        rw [e4]
      have hl2 : (((cur.toList.take (ys.length * 2)).drop (j * 2)).take 2).length = 2 := by
        rw [List.length_take, List.length_drop, hlen]
        omega
      apply List.ext_getElem?
      intro i
      rcases (show i = 0 ∨ i = 1 ∨ 2 ≤ i by omega) with rfl | rfl | h2
      · rw [get 0 (by omega)]; rfl
      · rw [get 1 (by omega)]; rfl
      · rw [List.getElem?_eq_none (by omega), List.getElem?_eq_none (by simpa using h2)]
    rw [e]
    exact k26_mkM _ _ _ _
theorem putCells_get (d : Array Value) (c : Array Value) (t : Nat) (h : d.size ≤ c.size) : (putCells id 0 d c)[t]? = if t < d.size then some (d[t]!) else c[t]? := by
  unfold putCells
  rw [Array.getElem?_mapIdx]
  by_cases h1 : t < d.size
  · rw [if_pos h1, Array.getElem?_eq_getElem (by omega)]
    simp [h1]
  · rw [if_neg h1]
    by_cases h2 : t < c.size
    · rw [Array.getElem?_eq_getElem h2]
      simp [h1]
    · rw [Array.getElem?_eq_none (by omega)]
      rfl
theorem sort_calls (g : Nat) (cb : Array Value) (cf : S26 → S26 → Int) (hO : SWO (ltOf cf)) (eg : ∀ args w, (callFunc g args).run Try.prog w = .ok (.enter g args) w) {w : World} {base : Nat} {ok : Nat → Prop} {v : Value} {xs : List S26} (h : Kd.R k26 26 w base ok v xs) (hp : 0 < xs.length) (hsz : xs.length < 4611686018427387904)
    (hcmp : ∀ W : World, w.heap.size ≤ W.heap.size → (∀ k, k < w.heap.size → some k ≠ v.ownBlock → W.heap[k]? = w.heap[k]?) → ∀ x y : S26, Calls Try.prog g (#[.agg (enc26 x).toArray, .agg (enc26 y).toArray] ++ cb) W fun e w' => e = .returned (.int .i64 (cf x y)) ∧ ∃ q os, w' = grow (W.drewN q) os) :
    Calls Try.prog 215 #[v, .func (.func g) #[] cb] w fun e w' => e = .returned (.tuple #[]) ∧ ∃ ys : List S26, ys.Perm xs ∧ (∀ i j, i < j → j < ys.length → ltOf cf (ys.getD j z26) (ys.getD i z26) = false) ∧ Kd.R k26 26 w' base ok v ys ∧ w.grownBy w' v.ownBlock := by
  obtain ⟨b, cap, cur, rfl, hb, hh, hnc, hcm, hcs, hok, hc⟩ := R_cells h hp
  have hlt : b < w.heap.size := (Array.getElem?_eq_some_iff.1 hh).1
  have hds : xs.toArray.size = xs.length := by simp
  have hfs : (flatK enc26 2 xs.toArray).size = xs.length * 2 := by rw [size_flatK, hds]
  have hH : HoldsK enc26 2 w b 0 xs.toArray := by
    intro j hj
    rw [hfs] at hj
    refine ⟨?_, by simp [World.frozen?, hh]⟩
    have e : w.cell? ⟨b, 0 + j, none⟩ = cur[j]? := by rw [Nat.zero_add]; simp [World.cell?, hh]
    rw [e, hc j hj]
    show _ = some ((flatK enc26 2 xs.toArray)[j]!)
    rw [flat_get xs j hj]
  have world : ∀ (m : Nat) (dk : Array S26) (os : Array Obj) (k : Nat), k < w.heap.size → k ≠ b → (sortWorldK enc26 2 w b 0 m dk os).heap[k]? = w.heap[k]? := by
    intro m dk os k hk hne
    show ((w.heap.modify b (onCells _)) ++ os)[k]? = _
    rw [Array.getElem?_append_left (by simpa using hk), Array.getElem?_modify, if_neg (Ne.symm hne)]
  have hC : CmpLays Try.prog g cb enc26 2 cf b 0 xs.toArray.size w := by
    intro m os dk _ x y
    exact hcmp _ (by show _ ≤ ((w.heap.modify b (onCells _)) ++ os).size; simp) (fun k hk hne => world m dk os k hk (by intro e; apply hne; rw [e]; simp [Value.ownBlock])) x y
  have hS := AnyQ.slices_SortFunc srt 2 Try.isAgg26 Try.sizeOf26 enc26 (fun _ => rfl) (by intro x v hv; unfold enc26 at hv; simp at hv; rcases hv with rfl | rfl <;> rfl) cf hO g cb b 0 cap xs.toArray w eg hC hH hlt (by rw [hds]; exact hsz)
  rw [hds] at hS
  refine hS.mono ?_
  rintro e w' ⟨rfl, d', n, os, hperm, hsort, rfl⟩
  have hd's : d'.size = xs.length := by rw [hperm.1, hds]
  have hl' : d'.toList.length = xs.length := by simp [hd's]
  refine ⟨rfl, d'.toList, ?_, ?_, ?_, ?_⟩
  · have := hperm.2.2
    rw [← hd's, Array.extract_size, hd's, ← hds, Array.extract_size] at this
    simpa using this
  · intro i j hij hj
    rw [hl'] at hj
    have h1 := hsort i j (Nat.zero_le _) hij hj
    have e (t : Nat) (ht : t < d'.size) : d'[t]! = d'.toList.getD t z26 := by
      rw [getElem!_pos d' t ht]
      simp [List.getD, ht]
    rw [e j (by omega), e i (by omega)] at h1
    exact h1
  · have hcur' : (sortWorldK enc26 2 w b 0 n d' os).heap[b]? = some (.cells (putCells id 0 (flatK enc26 2 d') cur) 26 (0, 0)) := by
      show ((w.heap.modify b (onCells _)) ++ os)[b]? = _
      rw [Array.getElem?_append_left (by simpa using hlt), Array.getElem?_modify, if_pos rfl, hh]
      rfl
    have hfs' : (flatK enc26 2 d').size = xs.length * 2 := by rw [size_flatK, hd's]
    have hle : xs.length * 2 ≤ cur.size := by rw [hcs]; exact Nat.mul_le_mul_right _ hnc
    have key := R_of_cells (base := base) (ok := ok) (ys := d'.toList) hb hcur' (by rw [hl']; exact hnc) hcm (by unfold putCells; simp [hcs]) hok (fun t ht => by
      rw [hl'] at ht
      rw [putCells_get _ _ _ (by rw [hfs']; exact hle), hfs', if_pos ht]
      have := flat_get d'.toList t (by rw [hl']; exact ht)
      rw [Array.toArray_toList] at this
      rw [this])
    rw [hl'] at key
    exact key
  · refine ⟨rfl, rfl, rfl, ?_, fun k hk hne => world n d' os k hk (by intro e; apply hne; rw [e]; simp [Value.ownBlock])⟩
    show _ ≤ ((w.heap.modify b (onCells _)) ++ os).size
    simp
theorem cmp3_lt {x y : Int} : cmp3 x y < 0 ↔ x < y := by
  unfold cmp3
  split
  · simp_all
  · split
    · constructor <;> intro h <;> omega
    · constructor <;> intro h <;> omega
theorem cmp3_eq {x y : Int} : cmp3 x y = 0 ↔ x = y := by
  unfold cmp3
  split
  · constructor <;> intro h <;> omega
  · split
    · constructor <;> intro h <;> omega
    · constructor <;> intro h <;> omega
def cfPg (a b : S26) : Int := cmpPg a.f0 a.f1 b.f0 b.f1
theorem cfPg_lt (a b : S26) : cfPg a b < 0 ↔ a.f0 < b.f0 ∨ (a.f0 = b.f0 ∧ a.f1 < b.f1) := by
  unfold cfPg cmpPg
  by_cases h : cmp3 a.f0 b.f0 = 0
  · rw [if_pos h, cmp3_lt]
    rw [cmp3_eq] at h
    omega
  · rw [if_neg h, cmp3_lt]
    rw [cmp3_eq] at h
    omega
def ltPg (a b : S26) : Bool := ltOf cfPg a b
theorem ltPg_iff (a b : S26) : ltPg a b = true ↔ a.f0 < b.f0 ∨ (a.f0 = b.f0 ∧ a.f1 < b.f1) := by
  unfold ltPg ltOf
  rw [decide_eq_true_iff, cfPg_lt]
theorem ltPg_false (a b : S26) : ltPg a b = false ↔ ¬ (a.f0 < b.f0 ∨ (a.f0 = b.f0 ∧ a.f1 < b.f1)) := by
  rw [← ltPg_iff]
  cases ltPg a b <;> simp
theorem swo_pg : SWO (ltOf cfPg) where
  irrefl := fun x => by have := ltPg_false x x; unfold ltPg at this; rw [this]; omega
  trans := fun x y z h1 h2 => by
    have a := (ltPg_iff x y).1 h1
    have b := (ltPg_iff y z).1 h2
    exact (ltPg_iff x z).2 (by omega)
  ntrans := fun x y z h1 h2 => by
    have a := (ltPg_false x y).1 h1
    have b := (ltPg_false y z).1 h2
    exact (ltPg_false x z).2 (by omega)
def sortPg (l : List S26) : List S26 := l.mergeSort (fun a b => !ltPg b a)
theorem sortPg_perm (l : List S26) : (sortPg l).Perm l := List.mergeSort_perm _ _
theorem sortPg_sorted (l : List S26) : (sortPg l).Pairwise (fun a b => ltPg b a = false) := by
  have h := List.pairwise_mergeSort (le := fun a b => !ltPg b a) (fun a b c h1 h2 => by
    simp only [Bool.not_eq_true'] at h1 h2 ⊢
    rw [ltPg_false] at *
    omega) (fun a b => by
    simp only [Bool.or_eq_true, Bool.not_eq_true']
    by_cases h : ltPg b a = true
    · right
      rw [ltPg_false]
      rw [ltPg_iff] at h
      omega
    · left
      simpa using h) l
  exact h.imp (fun h => by simpa using h)
theorem sortPg_unique {l ys : List S26} (hp : ys.Perm l) (hs : ys.Pairwise (fun a b => ltPg b a = false)) : ys = sortPg l := by
  refine List.Perm.eq_of_pairwise (le := fun a b => ltPg b a = false) (fun a b _ _ h1 h2 => ?_) hs (sortPg_sorted l) (hp.trans (sortPg_perm l).symm)
  rw [ltPg_false] at h1 h2
  have e1 : a.f0 = b.f0 := by omega
  have e2 : a.f1 = b.f1 := by omega
  cases a
  cases b
  simp_all
theorem pairwise_of_getD {ys : List S26} {p : S26 → S26 → Prop} (h : ∀ i j, i < j → j < ys.length → p (ys.getD i z26) (ys.getD j z26)) : ys.Pairwise p := by
  rw [List.pairwise_iff_getElem]
  intro i j hi hj hij
  have := h i j hij hj
  simpa [List.getD, hi, hj] using this
end Go.Proofs.YtphpdfcblchpnaaH
