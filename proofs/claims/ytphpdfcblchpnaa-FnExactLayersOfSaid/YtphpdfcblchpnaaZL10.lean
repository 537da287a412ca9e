/- Parts of the proof: printed texts, words and own texts, cut to what is used. -/
import Derived.Test.YtphpdfcblchpnaaZL9
namespace Go.Proofs.Ytphpdfcblchpnaa.D
set_option linter.unusedSimpArgs false
open Go.RowKit Go.Proofs.Ytphpdfcblchpnaa.Q Go.Proofs.YtphpdfcblchpnaaW.PrintWords Go.Proofs.YtphpdfcblchpnaaW.PrintLast Go.Proofs.YtphpdfcblchpnaaW.PrintMore
abbrev SS (w : World) (base : Nat) (ok : Nat → Prop) (v : Value) (xs : List (List S26)) : Prop := Kd.S (Kd.slice 26 k26) 24 w base ok v xs
set_option maxRecDepth 100000 in
set_option maxHeartbeats 4000000 in
theorem law13 {k : Nat} {l : List S97} {ps : List S26} {rs : List (List S26)} {bo : Bool} (hs : l.length ≤ 1048576) (hp : laws_toPegS.f k l = some ps) (he : laws_eqPegS.f k ps ps = some true)
    (h1 : spec_LayersOf.f k ps = some (rs, bo)) (h2 : impl_LayersOf.f k ps = some (rs, bo)) (hq : laws_eqPegSS.f k rs rs = some true) (hm : laws_markPegS.f k ps 1 = some (1 + 2 * (ps.length : Int), mkRow ps.length 1))
    (hh : laws_heldPegSS.f k (mkAll rs 1) 1 = some (1 + 2 * (sumAll rs : Int))) (hsum : 1 + 2 * (sumAll rs : Int) ≤ 1000000) (hrl : rs.length ≤ 1000000) (A0 : Option Addr) (c0 : Nat) (w : World) (hr0 : Kd.C k97 w A0 l.length l) (hc0 : l.length ≤ c0) :
    Calls Try.prog 13 #[.slice A0 l.length c0] w fun e w' => e = .returned (.bool true) ∧ Below w.heap.size w w' := by
  have HR0 := Aside0.mk hr0
  have HC0 := Aside0.mk hc0
  have e1 : (1048576 : Int) - (l.length : Int) = wrap64 (1048576 - (l.length : Int)) := by
    unfold wrap64
    omega
  have hneg : ¬ (1048576 : Int) - (l.length : Int) < 0 := by omega
  have hsz := laws_szPegS.calls A0 c0 l 1048576 (1048576 - (l.length : Int)) w hr0 hc0 (by unfold laws_szPegS.f; rw [← e1, if_neg hneg])
  -- what each call tells
  have toP : ∀ W : World, Below w.heap.size w W → Calls Try.prog 37 #[.slice A0 l.length c0] W fun e w' => ∃ A c, e = .returned (.slice A ps.length c) ∧ Aside0 (ps.length ≤ c) ∧ Aside0 (Kd.R k26 26 w' W.heap.size (fun _ => True) (.slice A ps.length c) ps) ∧ Aside0 (Below W.heap.size W w') ∧ Aside0 (Below w.heap.size w w') := by
    intro W hW
    refine (laws_toPegS.calls k A0 c0 l ps W (Kd.C_below hr0 hW) hc0 hp).mono ?_
    rintro e w' ⟨v, rfl, hR, hB⟩
    obtain ⟨A, c, rfl, hc, hC⟩ := Kd.R_reads hR
    exact ⟨A, c, rfl, ⟨hc⟩, ⟨hR⟩, ⟨hB⟩, ⟨hW.trans (hB.mono hW.size)⟩⟩
  have spec : ∀ (W : World) (A : Option Addr) (c : Nat), ps.length ≤ c → Kd.C k26 W A ps.length ps → Calls Try.prog 124 #[.slice A ps.length c] W fun e w' => ∃ A3 c3, e = .returned (.tuple #[.slice A3 rs.length c3, .bool bo]) ∧ Aside0 (SS w' W.heap.size (fun _ => True) (.slice A3 rs.length c3) rs) ∧ Aside0 (Below W.heap.size W w') := by
    intro W A c hc hC
    refine (spec_LayersOf.calls k A c ps rs bo W hC hc h1).mono ?_
    rintro e w' ⟨v, rfl, hS, hB⟩
    obtain ⟨A3, c3, rfl, _, _⟩ := Kd.S_reads hS
    exact ⟨A3, c3, rfl, ⟨hS⟩, ⟨hB⟩⟩
  have prog : ∀ (W : World) (A : Option Addr) (c base : Nat), Kd.R k26 26 W base (fun _ => True) (.slice A ps.length c) ps → Calls Try.prog 125 #[.slice A ps.length c] W fun e w' => ∃ A3 c3, e = .returned (.tuple #[.slice A3 rs.length c3, .bool bo]) ∧ Aside0 (SS w' W.heap.size (fun k => W.heap.size ≤ k) (.slice A3 rs.length c3) rs) ∧ Aside0 (Below W.heap.size W w') := by
    intro W A c base hR
    refine (impl_LayersOf.calls k (fun _ => True) A c ps rs bo W (Kd.R_V hR) h2).mono ?_
    rintro e w' ⟨v, rfl, hS, hB⟩
    obtain ⟨A3, c3, rfl, _, _⟩ := Kd.S_reads hS
    exact ⟨A3, c3, rfl, ⟨hS⟩, ⟨hB⟩⟩
  have eqSS : ∀ (W : World) (A A' : Option Addr) (c c' b b' : Nat) (ok ok' : Nat → Prop), SS W b ok (.slice A rs.length c) rs → SS W b' ok' (.slice A' rs.length c') rs → Calls Try.prog 85 #[.slice A rs.length c, .slice A' rs.length c'] W fun e w' => e = .returned (.bool true) ∧ Aside0 (Below W.heap.size W w') := by
    intro W A A' c c' b b' ok ok' hS hS'
    obtain ⟨_, hc, hC⟩ := Kd.S_reads' hS
    obtain ⟨_, hc', hC'⟩ := Kd.S_reads' hS'
    exact (laws_eqPegSS.calls k A c rs A' c' rs true W hC hc hC' hc' hq).mono fun e w' ⟨he, hb⟩ => ⟨he, ⟨hb⟩⟩
  have eqS : ∀ (W : World) (A A' : Option Addr) (c c' b b' : Nat), Kd.R k26 26 W b (fun _ => True) (.slice A ps.length c) ps → Kd.R k26 26 W b' (fun _ => True) (.slice A' ps.length c') ps → Calls Try.prog 39 #[.slice A ps.length c, .slice A' ps.length c'] W fun e w' => e = .returned (.bool true) ∧ Aside0 (Below W.heap.size W w') := by
    intro W A A' c c' b b' hR hR'
    obtain ⟨_, hc, hC⟩ := Kd.R_reads' hR
    obtain ⟨_, hc', hC'⟩ := Kd.R_reads' hR'
    exact (laws_eqPegS.calls k A c ps A' c' ps true W hC hc hC' hc' he).mono fun e w' ⟨he, hb⟩ => ⟨he, ⟨hb⟩⟩
  obtain ⟨m1, hm1⟩ : ∃ m1 : Int, m1 = 1 + 2 * (ps.length : Int) := ⟨_, rfl⟩
  obtain ⟨m2, hm2⟩ : ∃ m2 : Int, m2 = 1 + 2 * (sumAll rs : Int) := ⟨_, rfl⟩
  have mark : ∀ (W W0 : World) (A : Option Addr) (c : Nat) (P0 : Nat → Prop), Below W0.heap.size W0 W → Kd.R k26 26 W W0.heap.size P0 (.slice A ps.length c) ps → Calls Try.prog 118 #[.slice A ps.length c, .int .i64 1] W fun e w' => e = .returned (.int .i64 m1) ∧ Aside0 (Below W0.heap.size W0 w') ∧ Aside0 (Kept W w' P0) := by
    intro W W0 A c P0 hB hR
    rw [hm1]
    exact (laws_markPegS.calls k P0 _ ps 1 _ _ W0 W hB hR hm).mono fun e w' ⟨he, _, hb, hk⟩ => ⟨he, ⟨hb⟩, ⟨hk⟩⟩
  have markS : ∀ (W W0 : World) (u : Value), Below W0.heap.size W0 W → SS W W0.heap.size (fun _ => True) u rs → Calls Try.prog 126 #[u, .int .i64 1] W fun e w' => e = .returned (.int .i64 m2) ∧ Aside0 (SS w' W0.heap.size (fun _ => True) u (mkAll rs 1)) ∧ Aside0 (Below W0.heap.size W0 w') := by
    intro W W0 u hB hS
    rw [hm2]
    exact markSS rs 1 (by omega) hsum hrl W0 W u hB hS
  have held : ∀ (W : World) (A : Option Addr) (c b : Nat), SS W b (fun _ => True) (.slice A rs.length c) (mkAll rs 1) → Calls Try.prog 127 #[.slice A rs.length c, .int .i64 1] W fun e w' => e = .returned (.int .i64 m2) ∧ Aside0 (Below W.heap.size W w') := by
    intro W A c b hS
    obtain ⟨_, hc, hC⟩ := Kd.S_reads' hS
    have hl := mkAll_len rs 1
    rw [hm2, ← hl]
    exact (laws_heldPegSS.calls k A c (mkAll rs 1) 1 _ W hC (by omega) hh).mono fun e w' ⟨he, hd⟩ => ⟨he, ⟨hd.below⟩⟩
  have d1 : decide (m1 < 0) = false := decide_eq_false (by omega)
  have d2 : decide (m2 < 0) = false := decide_eq_false (by omega)
  have TOP := Aside0.mk toP
  have SPEC := Aside0.mk spec
  have PROG := Aside0.mk prog
  have EQSS := Aside0.mk eqSS
  have EQS := Aside0.mk eqS
  have MARK := Aside0.mk mark
  have MARKS := Aside0.mk markS
  have HELD := Aside0.mk held
  clear toP spec prog eqSS eqS mark markS held hr0 hc0 h1 h2 hq hm hh hp he hm1 hm2 hsum hrl e1
  go_enter Try.func13, Try.ntmps13
  go_wp2_with (first
    | (go_at_call 35; refine hsz.mono ?_; rintro e w1 ⟨rfl, hd⟩; have b1 := Aside0.mk hd.below; clear hd hsz)
    | (go_at_call 37; first
        | (with_reducible refine (TOP.out w1 b1.out).mono ?_; rintro e w2 ⟨A2, c2, rfl, hc2, R2, B2, b2⟩)
        | (with_reducible refine (TOP.out w3 b3.out).mono ?_; rintro e w4 ⟨A4, c4, rfl, hc4, R4, B4, b4⟩; have R4' := Aside0.mk (Kd.R_bound R4.out))
        | (with_reducible refine (TOP.out w6 b6.out).mono ?_; rintro e w7 ⟨A7, c7, rfl, hc7, R7, B7, b7⟩)
        | (with_reducible refine (TOP.out w12 b12.out).mono ?_; rintro e w13 ⟨A13, c13, rfl, hc13, R13, B13, b13⟩))
    | (go_at_call 124; refine (SPEC.out w2 A2 c2 hc2.out (Kd.R_reads' R2.out).2.2).mono ?_; rintro e w3 ⟨A3, c3, rfl, S3, B3⟩; have b3 := Aside0.mk (b2.out.trans (B3.out.mono b2.out.size)))
    | (go_at_call 125; first
        | (with_reducible refine (PROG.out w4 A4 c4 w3.heap.size R4.out).mono ?_; rintro e w5 ⟨A5, c5, rfl, S5, B5⟩; have b5 := Aside0.mk (b4.out.trans (B5.out.mono b4.out.size)); have t5 := Aside0.mk (B4.out.trans (B5.out.mono B4.out.size)); have R5 := Aside0.mk (Kd.R_below R4'.out B5.out))
        | (with_reducible refine (PROG.out w13 A13 c13 w12.heap.size R13.out).mono ?_; rintro e w14 ⟨A14, c14, rfl, S14, B14⟩; have b14 := Aside0.mk (b13.out.trans (B14.out.mono b13.out.size)); have t14 := Aside0.mk (t12.out.trans ((B13.out.trans (B14.out.mono B13.out.size)).mono t12.out.size)); have G14 := Aside0.mk (Kd.S_below G12.out (B13.out.trans (B14.out.mono B13.out.size)))))
    | (go_at_call 85; first
        | (with_reducible refine (EQSS.out w5 A5 A3 c5 c3 w4.heap.size w2.heap.size _ _ S5.out (Kd.S_below S3.out t5.out)).mono ?_; rintro e w6 ⟨rfl, B6⟩; have b6 := Aside0.mk (b5.out.trans (B6.out.mono b5.out.size)))
        | (with_reducible refine (EQSS.out w9 A5 A3 c5 c3 w4.heap.size w2.heap.size _ _ S9.out (Kd.S_below S3.out t9.out)).mono ?_; rintro e w10 ⟨rfl, B10⟩; have t10 := Aside0.mk (t9.out.trans (B10.out.mono t9.out.size)); have S10 := Aside0.mk (Kd.S_mono (Kd.S_lower (Kd.S_below S9.out B10.out) B4.out.size) (fun _ _ => trivial)))
        | (with_reducible refine (EQSS.out w14 A14 A3 c14 c3 w13.heap.size w2.heap.size _ _ S14.out (Kd.S_below S3.out t14.out)).mono ?_; rintro e w15 ⟨rfl, B15⟩; have b15 := Aside0.mk (b14.out.trans (B15.out.mono b14.out.size)); have G15 := Aside0.mk (Kd.S_below G14.out B15.out)))
    | (go_at_call 39; refine (EQS.out w7 A4 A7 c4 c7 w3.heap.size w6.heap.size (Kd.R_mono (Kd.R_below R5.out (B6.out.trans (B7.out.mono B6.out.size))) (fun _ _ => trivial)) R7.out).mono ?_; rintro e w8 ⟨rfl, B8⟩; have B58 := Aside0.mk ((B6.out.trans (B7.out.mono B6.out.size)).trans (B8.out.mono (Nat.le_trans B6.out.size B7.out.size))); have t8 := Aside0.mk (t5.out.trans (B58.out.mono t5.out.size)))
    | (go_at_call 118; refine (MARK.out w8 w3 A4 c4 (fun k => k < w4.heap.size) t8.out (Kd.R_mono (Kd.R_below R5.out B58.out) (fun _ hk => hk.2.2.1))).mono ?_; rintro e w9 ⟨rfl, t9, K9⟩; have S9 := Aside0.mk (Kd.S_kept (Kd.S_below S5.out B58.out) K9.out (fun k (hk : w4.heap.size ≤ k) => Nat.not_lt.2 hk)))
    | (go_at_call 126; refine (MARKS.out w10 w3 (.slice A5 rs.length c5) t10.out S10.out).mono ?_; rintro e w11 ⟨rfl, G11, t11⟩)
    | (go_at_call 127; first
        | (with_reducible refine (HELD.out w11 A5 c5 w3.heap.size G11.out).mono ?_; rintro e w12 ⟨rfl, B12⟩; have t12 := Aside0.mk (t11.out.trans (B12.out.mono t11.out.size)); have b12 := Aside0.mk (b3.out.trans (t12.out.mono b3.out.size)); have G12 := Aside0.mk (Kd.S_below G11.out B12.out))
        | (with_reducible refine (HELD.out w15 A5 c5 w3.heap.size G15.out).mono ?_; rintro e w16 ⟨rfl, B16⟩; have b16 := Aside0.mk (b15.out.trans (B16.out.mono b15.out.size)))))
  go_ret
  exact ⟨rfl, b16.out⟩
end Go.Proofs.Ytphpdfcblchpnaa.D
