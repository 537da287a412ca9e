/- Parts of the proof: printed texts, words and own texts, cut to what is used. -/
import Derived.Test.YtphpdfcblchpnaaZL7
namespace Go.Proofs.Ytphpdfcblchpnaa.D
set_option linter.unusedSimpArgs false
open Go.RowKit Go.Proofs.Ytphpdfcblchpnaa.Q Go.Proofs.YtphpdfcblchpnaaW.PrintWords Go.Proofs.YtphpdfcblchpnaaW.PrintLast Go.Proofs.YtphpdfcblchpnaaW.PrintMore
set_option maxRecDepth 100000 in
set_option maxHeartbeats 2000000 in
theorem markSS (rows : List (List S26)) (a0 : Int) (ha : 0 ≤ a0) (hs : a0 + 2 * (sumAll rows : Int) ≤ 1000000) (hl : rows.length ≤ 1000000) (w0 w : World) (u : Value) (hB : Below w0.heap.size w0 w)
    (hS : Kd.S (Kd.slice 26 k26) 24 w w0.heap.size (fun _ => True) u rows) :
    Calls Try.prog 126 #[u, .int .i64 a0] w fun e w' => e = .returned (.int .i64 (a0 + 2 * (sumAll rows : Int))) ∧ Aside0 (Kd.S (Kd.slice 26 k26) 24 w' w0.heap.size (fun _ => True) u (mkAll rows a0)) ∧ Aside0 (Below w0.heap.size w0 w') := by
  by_cases h0 : 0 < rows.length
  · obtain ⟨g, cap, rfl, hg, hglt, -⟩ := Kd.S_form hS h0
    have HB := Aside0.mk hB
    have HS := Aside0.mk hS
    clear hB hS
    have hround : ∀ (i : Nat) (hi : i < rows.length) (W : World), Below w0.heap.size w0 W → Kd.S (Kd.slice 26 k26) 24 W w0.heap.size (fun _ => True) (.slice (some ⟨g, 0, none⟩) rows.length cap) (mkAll (rows.take i) a0 ++ rows.drop i) →
        ∃ v, W.cell? ⟨g, i, none⟩ = some v ∧ ∀ args, args = #[v, .int .i64 (a0 + 2 * (sumAll (rows.take i) : Int))] → Calls Try.prog 118 args W fun e w' => e = .returned (.int .i64 (a0 + 2 * (sumAll (rows.take (i + 1)) : Int))) ∧
          Aside0 (Kd.S (Kd.slice 26 k26) 24 w' w0.heap.size (fun _ => True) (.slice (some ⟨g, 0, none⟩) rows.length cap) (mkAll (rows.take (i + 1)) a0 ++ rows.drop (i + 1))) ∧ Aside0 (Below w0.heap.size w0 w') := by
      intro i hi W hBW hSW
      obtain ⟨s1, s2, s3⟩ := mkAll_step rows a0 i hi
      obtain ⟨oki, c, hcl, hM, hcc, hoki, hH⟩ := Kd.S_lend hSW [] (i : Int) (by omega) (by omega)
      rw [Int.toNat_natCast, s1] at hM
      obtain ⟨v, rfl, hR⟩ := hM
      have hcell := hcc 0 v rfl
      refine ⟨v, ?_, fun args hargs => ?_⟩
      · rw [← hcell]
        congr 2
        rw [Int.toNat_natCast]
        show i = i * 1 + 0
        omega
      subst hargs
      have t1 := sumAll_take_le rows i
      have t2 := sumAll_take_le rows (i + 1)
      obtain ⟨k, hk⟩ := (mark_ev rows[i] (a0 + 2 * (sumAll (rows.take i) : Int)) (by omega) (by omega) (by omega)).rounds
      refine (laws_markPegS.calls k oki v rows[i] _ _ _ w0 W hBW hR hk).mono ?_
      rintro e w' ⟨rfl, hR', hB', hK⟩
      refine ⟨by congr 2; omega, ⟨?_⟩, ⟨hB'⟩⟩
      have h1 := Kd.H_step (Kd.H_widen hH) (w1 := w') (fun k _ hn hlt => hK.2 k hlt (fun h => hn (.inl h)))
      have h2 := Kd.H_back h1 (x' := mkRow (rows[i]).length (a0 + 2 * (sumAll (rows.take i) : Int))) (okp := fun k => oki k ∨ W.heap.size ≤ k) ⟨v, rfl, hR'⟩ (fun k hk => hk.elim .inl (fun h => .inr ⟨trivial, h⟩))
      rw [Int.toNat_natCast, s2] at h2
      exact h2
    have HR := Aside0.mk hround
    clear hround
    go_enter Try.func126, Try.ntmps126
    go_wp2
    go_loopg [1, 5] rows.length (fun gg s1 s5 wr => ∃ i : Nat, s5 = .int .i64 i ∧ i ≤ rows.length ∧ rows.length - i ≤ gg ∧ s1 = .int .i64 (a0 + 2 * (sumAll (rows.take i) : Int)) ∧ Aside0 (Below w0.heap.size w0 wr) ∧
      Aside0 (Kd.S (Kd.slice 26 k26) 24 wr w0.heap.size (fun _ => True) (.slice (some ⟨g, 0, none⟩) rows.length cap) (mkAll (rows.take i) a0 ++ rows.drop i)))
    case atStart => exact ⟨0, rfl, Nat.zero_le _, by omega, by simp [sumAll], HB, ⟨by simpa [mkAll] using HS.out⟩⟩
    case round =>
      obtain ⟨i, rfl, hi, hgg, rfl, HBW, HSW⟩ := hrel
      by_cases hlt : i < rows.length
      · obtain ⟨v, hv, hcall⟩ := HR.out i hlt wr HBW.out HSW.out
        have b1 : decide ((i : Int) < (rows.length : Int)) = true := decide_eq_true (by omega)
        have w1 : wrap64 ((i : Int) + 1) = ((i + 1 : Nat) : Int) := by unfold wrap64; omega
        have HC := Aside0.mk hcall
        clear hcall
        go_wp2_with (go_at_call 118; refine (HC.out _ rfl).mono ?_; rintro e w' ⟨rfl, HS', HB'⟩)
        go_roundg (rows.length - (i + 1))
        case measure => omega
        case rel => exact ⟨i + 1, by first | rfl | (rw [Int.natCast_add]; rfl) | (rw [← w1]; done), by omega, by omega, rfl, HB', HS'⟩
      · obtain rfl : i = rows.length := by omega
        have b1 : decide ((rows.length : Int) < (rows.length : Int)) = false := decide_eq_false (by omega)
        rw [List.take_length, List.drop_length, List.append_nil] at HSW
        rw [List.take_length]
        go_wp2
        go_ret
        exact ⟨rfl, HSW, HBW⟩
  · have hn : rows = [] := List.length_eq_zero_iff.1 (by omega)
    subst hn
    obtain ⟨A, c, rfl⟩ := Kd.S_slice hS
    have HB := Aside0.mk hB
    have HS := Aside0.mk hS
    clear hB hS
    go_enter Try.func126, Try.ntmps126
    go_wp2
    go_loopg [1, 5] 0 (fun _ s1 s5 wr => s5 = .int .i64 0 ∧ s1 = .int .i64 a0 ∧ wr = w)
    case atStart => exact ⟨rfl, rfl, rfl⟩
    case round =>
      obtain ⟨rfl, rfl, rfl⟩ := hrel
      go_wp2
      go_ret
      exact ⟨by simp [sumAll], HS, HB⟩
end Go.Proofs.Ytphpdfcblchpnaa.D
