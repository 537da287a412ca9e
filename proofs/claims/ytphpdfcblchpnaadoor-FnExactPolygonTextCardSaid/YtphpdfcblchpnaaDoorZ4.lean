/- Parts of the proof: printed texts, words and own texts, cut to what is used. -/
import Derived.KernelRfl
import Derived.Lib.AppendIntMem
import Derived.Lib.SmallJoins
import Derived.Shelf.LaysM
import Derived.Shelf.Strconv.Itoa3
import Derived.Shelf.Strings.OnBuilder
import Derived.Test.YtphpdfcblchpnaaDoorProg
import Derived.Test.YtphpdfcblchpnaaDoorZ3
namespace Go.Proofs.YtphpdfcblchpnaaDoorI
open Go.Shelf Go.RowKit Go.Sort Go.Lib Go.Proofs.YtphpdfcblchpnaaDoorW.PrintWords Go.Proofs.YtphpdfcblchpnaaDoorW.PrintLast
def laysM171_ren : Go.Shelf.Ren := ⟨fun | 171 => 26 | 243 => 39 | 246 => 44 | 283 => 47 | 284 => 48 | 285 => 49 | 286 => 50 | 129 => 54 | 317 => 53 | 318 => 55 | 319 => 56 | 320 => 57 | 337 => 58 | 338 => 59 | n => n, fun | 3 => 3 | 9 => 9 | 2 => 2 | 4 => 4 | 171 => 66 | 0 => 0 | 53 => 67 | 37 => 54 | 5 => 5 | 173 => 70 | 212 => 76 | 51 => 77 | 20 => 20 | 213 => 78 | 46 => 80 | 232 => 83 | 233 => 84 | n => n, fun | 17 => 0 | 18 => 2 | 19 => 3 | n => n⟩
theorem laysM171 : Go.Proofs.LaysM.n171 Tryd.prog laysM171_ren := {
  mixed := by kernel_rfl,
  f129 := Tryd.func54.trans (congrArg some (by kernel_rfl)),
  f171 := Tryd.func26.trans (congrArg some (by kernel_rfl)),
  f243 := Tryd.func39.trans (congrArg some (by kernel_rfl)),
  f246 := Tryd.func44.trans (congrArg some (by kernel_rfl)),
  f283 := Tryd.func47.trans (congrArg some (by kernel_rfl)),
  f284 := Tryd.func48.trans (congrArg some (by kernel_rfl)),
  f285 := Tryd.func49.trans (congrArg some (by kernel_rfl)),
  f286 := Tryd.func50.trans (congrArg some (by kernel_rfl)),
  f317 := Tryd.func53.trans (congrArg some (by kernel_rfl)),
  f318 := Tryd.func55.trans (congrArg some (by kernel_rfl)),
  f319 := Tryd.func56.trans (congrArg some (by kernel_rfl)),
  f320 := Tryd.func57.trans (congrArg some (by kernel_rfl)),
  f337 := Tryd.func58.trans (congrArg some (by kernel_rfl)),
  f338 := Tryd.func59.trans (congrArg some (by kernel_rfl)),
  t0 := Tryd.underlying0,
  a0 := Tryd.isAgg0,
  z0 := Tryd.sizeOf0,
  v0 := Tryd.zeroValue0,
  t2 := Tryd.underlying2,
  a2 := Tryd.isAgg2,
  z2 := Tryd.sizeOf2,
  v2 := Tryd.zeroValue2,
  t3 := Tryd.underlying3,
  a3 := Tryd.isAgg3,
  z3 := Tryd.sizeOf3,
  v3 := Tryd.zeroValue3,
  t4 := Tryd.underlying4,
  a4 := Tryd.isAgg4,
  z4 := Tryd.sizeOf4,
  v4 := Tryd.zeroValue4,
  t5 := Tryd.underlying5,
  a5 := Tryd.isAgg5,
  z5 := Tryd.sizeOf5,
  v5 := Tryd.zeroValue5,
  t9 := Tryd.underlying9,
  a9 := Tryd.isAgg9,
  z9 := Tryd.sizeOf9,
  v9 := Tryd.zeroValue9,
  t20 := Tryd.underlying20,
  a20 := Tryd.isAgg20,
  z20 := Tryd.sizeOf20,
  v20 := Tryd.zeroValue20,
  t37 := Tryd.underlying54,
  a37 := Tryd.isAgg54,
  z37 := Tryd.sizeOf54,
  v37 := Tryd.zeroValue54,
  t46 := Tryd.underlying80,
  a46 := Tryd.isAgg80,
  z46 := Tryd.sizeOf80,
  v46 := Tryd.zeroValue80,
  t51 := Tryd.underlying77,
  a51 := Tryd.isAgg77,
  z51 := Tryd.sizeOf77,
  v51 := Tryd.zeroValue77,
  t53 := Tryd.underlying67,
  a53 := Tryd.isAgg67,
  z53 := Tryd.sizeOf67,
  v53 := Tryd.zeroValue67,
  t171 := Tryd.underlying66,
  a171 := Tryd.isAgg66,
  z171 := Tryd.sizeOf66,
  v171 := Tryd.zeroValue66,
  t173 := Tryd.underlying70,
  a173 := Tryd.isAgg70,
  z173 := Tryd.sizeOf70,
  v173 := Tryd.zeroValue70,
  t212 := Tryd.underlying76,
  a212 := Tryd.isAgg76,
  z212 := Tryd.sizeOf76,
  v212 := Tryd.zeroValue76,
  t213 := Tryd.underlying78,
  a213 := Tryd.isAgg78,
  z213 := Tryd.sizeOf78,
  t232 := Tryd.underlying83,
  a232 := Tryd.isAgg83,
  z232 := Tryd.sizeOf83,
  v232 := Tryd.zeroValue83,
  t233 := Tryd.underlying84,
  a233 := Tryd.isAgg84,
  z233 := Tryd.sizeOf84,
  v233 := Tryd.zeroValue84,
  g17 := by kernel_rfl,
  g18 := by kernel_rfl,
  g19 := by kernel_rfl,
  i0 := by kernel_rfl,
  i2 := by kernel_rfl,
  i3 := by kernel_rfl,
  i4 := by kernel_rfl,
  i5 := by kernel_rfl,
  i9 := by kernel_rfl,
  i20 := by kernel_rfl,
  i37 := by kernel_rfl,
  i46 := by kernel_rfl,
  i51 := by kernel_rfl,
  i53 := by kernel_rfl,
  i171 := by kernel_rfl,
  i173 := by kernel_rfl,
  i212 := by kernel_rfl,
  i232 := by kernel_rfl,
  i233 := by kernel_rfl,
  m17 := by kernel_rfl,
  m18 := by kernel_rfl,
  m19 := by kernel_rfl }
def lays156_ren : Go.Shelf.Ren := ⟨fun | 156 => 27 | 165 => 40 | 166 => 41 | 169 => 42 | 240 => 45 | 241 => 46 | 276 => 51 | 277 => 52 | n => n, fun | 31 => 45 | 9 => 9 | 3 => 3 | 4 => 4 | 0 => 0 | 20 => 20 | 72 => 56 | 76 => 60 | 70 => 53 | 37 => 54 | 75 => 59 | 127 => 65 | 164 => 72 | 5 => 5 | 80 => 62 | n => n, fun | n => n⟩
theorem lays156 : Go.Proofs.Lays.n156 Tryd.prog lays156_ren := {
  mixed := by kernel_rfl,
  f156 := Tryd.func27.trans (congrArg some (by kernel_rfl)),
  f165 := Tryd.func40.trans (congrArg some (by kernel_rfl)),
  f166 := Tryd.func41.trans (congrArg some (by kernel_rfl)),
  f169 := Tryd.func42.trans (congrArg some (by kernel_rfl)),
  f240 := Tryd.func45.trans (congrArg some (by kernel_rfl)),
  f241 := Tryd.func46.trans (congrArg some (by kernel_rfl)),
  f276 := Tryd.func51.trans (congrArg some (by kernel_rfl)),
  f277 := Tryd.func52.trans (congrArg some (by kernel_rfl)),
  t0 := Tryd.underlying0,
  a0 := Tryd.isAgg0,
  z0 := Tryd.sizeOf0,
  v0 := Tryd.zeroValue0,
  t3 := Tryd.underlying3,
  a3 := Tryd.isAgg3,
  z3 := Tryd.sizeOf3,
  v3 := Tryd.zeroValue3,
  t4 := Tryd.underlying4,
  a4 := Tryd.isAgg4,
  z4 := Tryd.sizeOf4,
  v4 := Tryd.zeroValue4,
  t9 := Tryd.underlying9,
  a9 := Tryd.isAgg9,
  z9 := Tryd.sizeOf9,
  v9 := Tryd.zeroValue9,
  t20 := Tryd.underlying20,
  a20 := Tryd.isAgg20,
  z20 := Tryd.sizeOf20,
  v20 := Tryd.zeroValue20,
  t31 := Tryd.underlying45,
  a31 := Tryd.isAgg45,
  z31 := Tryd.sizeOf45,
  v31 := Tryd.zeroValue45,
  t37 := Tryd.underlying54,
  a37 := Tryd.isAgg54,
  z37 := Tryd.sizeOf54,
  v37 := Tryd.zeroValue54,
  t70 := Tryd.underlying53,
  a70 := Tryd.isAgg53,
  z70 := Tryd.sizeOf53,
  v70 := Tryd.zeroValue53,
  t72 := Tryd.underlying56,
  a72 := Tryd.isAgg56,
  z72 := Tryd.sizeOf56,
  v72 := Tryd.zeroValue56,
  t75 := Tryd.underlying59,
  a75 := Tryd.isAgg59,
  z75 := Tryd.sizeOf59,
  v75 := Tryd.zeroValue59,
  t76 := Tryd.underlying60,
  a76 := Tryd.isAgg60,
  z76 := Tryd.sizeOf60,
  v76 := Tryd.zeroValue60,
  t127 := Tryd.underlying65,
  a127 := Tryd.isAgg65,
  z127 := Tryd.sizeOf65,
  v127 := Tryd.zeroValue65,
  t164 := Tryd.underlying72,
  a164 := Tryd.isAgg72,
  z164 := Tryd.sizeOf72,
  v164 := Tryd.zeroValue72 }
theorem extra : Builder.Extra Tryd.prog lays156_ren := {
  sizeBuilder := by kernel_rfl,
  liesBuilder := by kernel_rfl,
  t5 := Tryd.underlying5,
  a5 := Tryd.isAgg5,
  z5 := Tryd.sizeOf5,
  v5 := Tryd.zeroValue5,
  infoByte := by kernel_rfl,
  cellsByte := by kernel_rfl,
  sizeByte := by kernel_rfl,
  neB5 := by decide }
theorem itoa_calls (n : Int) (h0 : -9223372036854775808 ≤ n) (h1 : n ≤ 9223372036854775807) (w : World) (htab : Lib.TabIs Tryd.prog w "internal/strconv.uint64pow10" .u64 Lib.pow10Tab) :
    Calls Tryd.prog 26 #[.int .i64 n] w fun e w' => e = .returned (.string ⟨(Lib.itoa n).toArray⟩) ∧ ∃ k os, w' = grow (w.drewN k) os := Any.strconv_Itoa laysM171 n h0 h1 w htab
theorem join_calls (bk o c : Nat) (xs : List ByteArray) (sep : ByteArray) (w : World) (hcells : ∀ (j : Nat) x, xs[j]? = some x → w.cell? ⟨bk, o + j, none⟩ = some (.string x)) (hbk : bk < w.heap.size) (hN : xs.length ≤ 140737488355328) (hcap : xs.length ≤ c)
    (hlen : (Lib.join (xs.map (·.data.toList)) sep.data.toList).length ≤ 140737488355328) :
    Calls Tryd.prog 27 #[.slice (some ⟨bk, o, none⟩) xs.length c, .string sep] w fun e w' => e = .returned (.string ⟨(Lib.join (xs.map (·.data.toList)) sep.data.toList).toArray⟩) ∧ Below w.heap.size w w' :=
  Any.strings_Join lays156 extra bk o c xs sep w hcells hbk hN hcap hlen
def TabW (w : World) : Prop := Lib.TabIs Tryd.prog w "internal/strconv.uint64pow10" .u64 Lib.pow10Tab
theorem tabg : Tryd.prog.globalNamed "internal/strconv.uint64pow10" = some 0 := by kernel_rfl
theorem tab_of {w w' : World} (h : Aside0 (TabW w)) (hb : Below w.heap.size w w') : TabW w' := Go.Joins.tab_stays tabg h.out hb (Nat.le_refl _)
theorem itoa_below {n : Int} (h : -9223372036854775808 ≤ n ∧ n ≤ 9223372036854775807) {w : World} (ht : TabW w) :
    Calls Tryd.prog 26 #[.int .i64 n] w fun e w' => e = .returned (.string ⟨(Lib.itoa n).toArray⟩) ∧ Below w.heap.size w w' := by
  refine (itoa_calls n h.1 h.2 w ht).mono ?_
  rintro e w' ⟨rfl, k, os, rfl⟩
  exact ⟨rfl, below_grow _ w (Nat.le_refl _) k os⟩
theorem join_below (A : Option Addr) (c : Nat) (xs : List ByteArray) (sep : ByteArray) (w : World) (hr : Kd.C Kd.string w A xs.length xs) (hc : xs.length ≤ c) (hN : xs.length ≤ 140737488355328)
    (hlen : (Lib.join (xs.map (·.data.toList)) sep.data.toList).length ≤ 140737488355328) :
    Calls Tryd.prog 27 #[.slice A xs.length c, .string sep] w fun e w' => e = .returned (.string ⟨(Lib.join (xs.map (·.data.toList)) sep.data.toList).toArray⟩) ∧ Below w.heap.size w w' := by
  cases xs with
  | nil => exact (Any.strings_Join_none lays156 extra A c sep w).mono fun e w' ⟨he, hw⟩ => ⟨he, hw ▸ Below.refl _ _⟩
  | cons x xs =>
    have key : ∀ j (hj : j < (x :: xs).length), ∃ ad, A = some ad ∧ w.cell? (ad.add j) = some (.string ((x :: xs)[j])) := by
      intro j hj
      obtain ⟨ad, e, h⟩ := Kd.at_string hr (j : Int) (by omega) (by omega)
      refine ⟨ad, e, ?_⟩
      rw [Int.toNat_natCast] at h
      rw [h]
      unfold rdOf
      rw [Int.toNat_natCast, List.getD_eq_getElem?_getD, List.getElem?_eq_getElem hj]
      rfl
    obtain ⟨ad, rfl, h0⟩ := key 0 (by simp)
    obtain ⟨bk, o, sp⟩ := ad
    have hsp : sp = none := by
      unfold World.cell? Addr.add at h0
      simp only [if_pos] at h0
      split at h0
      · cases sp with
        | none => rfl
        | some s => simp at h0
      · cases h0
    subst hsp
    have hb : bk < w.heap.size := World.block_lt_of_cell? w _ h0
    refine join_calls bk o c (x :: xs) sep w (fun j y hy => ?_) hb hN hc hlen
    obtain ⟨hj, rfl⟩ := List.getElem?_eq_some_iff.1 hy
    obtain ⟨ad, e, h⟩ := key j hj
    cases e
    rw [← h]
    unfold Addr.add
    split
    · rename_i hz
      subst hz
      rfl
    · rfl
end Go.Proofs.YtphpdfcblchpnaaDoorI
