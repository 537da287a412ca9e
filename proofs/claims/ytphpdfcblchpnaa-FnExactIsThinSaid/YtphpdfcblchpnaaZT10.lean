/- Parts of the proof: printed texts, words and own texts, cut to what is used. -/
import Derived.Test.YtphpdfcblchpnaaZT9
namespace Go.Proofs.YtphpdfcblchpnaaL
set_option linter.unusedSimpArgs false
open Go.RowKit Go.Proofs.Ytphpdfcblchpnaa.Q Go.Proofs.YtphpdfcblchpnaaW.PrintWords Go.Proofs.YtphpdfcblchpnaaW.PrintLast
def TellsIB (f : Nat) (ps : List S26) (r1 : Int) (r2 : Bool) : Prop := ∀ (A0 : Option Addr) (c0 : Nat) (w : World), Kd.C k26 w A0 ps.length ps → ps.length ≤ c0 →
  Calls Try.prog f #[.slice A0 ps.length c0] w fun e w' => e = .returned (.tuple #[.int .i64 r1, .bool r2]) ∧ Below w.heap.size w w'
set_option maxRecDepth 100000 in
set_option maxHeartbeats 2000000 in
theorem law12 {k : Nat} {l : List S97} {ps : List S26} {r1 : Int} {r2 : Bool} (hs : l.length ≤ 1048576) (hp : laws_toPegS.f k l = some ps) (he : laws_eqPegS.f k ps ps = some true)
    (h1 : TellsIB 122 ps r1 r2) (h2 : TellsIB 123 ps r1 r2) (A0 : Option Addr) (c0 : Nat) (w : World) (hr0 : Kd.C k97 w A0 l.length l) (hc0 : l.length ≤ c0) :
    Calls Try.prog 12 #[.slice A0 l.length c0] w fun e w' => e = .returned (.bool true) ∧ Below w.heap.size w w' := by
  have HR0 := Aside0.mk hr0
  have HC0 := Aside0.mk hc0
  have H1 := Aside0.mk h1
  have H2 := Aside0.mk h2
  have HP := Aside0.mk hp
  have HE := Aside0.mk he
  have e1 : (1048576 : Int) - (l.length : Int) = wrap64 (1048576 - (l.length : Int)) := by
    unfold wrap64
    omega
  have hneg : ¬ (1048576 : Int) - (l.length : Int) < 0 := by omega
  have hsz := laws_szPegS.calls A0 c0 l 1048576 (1048576 - (l.length : Int)) w hr0 hc0 (by unfold laws_szPegS.f; rw [← e1, if_neg hneg])
  clear hr0 hc0 h1 h2 hp he e1
  go_enter Try.func12, Try.ntmps12
  have toP : ∀ W : World, Below w.heap.size w W → Calls Try.prog 37 #[.slice A0 l.length c0] W fun e w' => ∃ A c, e = .returned (.slice A ps.length c) ∧ Aside0 (ps.length ≤ c) ∧ Aside0 (Kd.C k26 w' A ps.length ps) ∧ Aside0 (Below W.heap.size W w') ∧ Aside0 (Below w.heap.size w w') := by
    intro W hW
    refine (laws_toPegS.calls k A0 c0 l ps W (Kd.C_below HR0.out hW) HC0.out HP.out).mono ?_
    rintro e w' ⟨v, rfl, hR, hB⟩
    obtain ⟨A, c, rfl, hc, hC⟩ := Kd.R_reads hR
    exact ⟨A, c, rfl, Aside0.mk hc, Aside0.mk hC, Aside0.mk hB, Aside0.mk (hW.trans (hB.mono hW.size))⟩
  have TOP := Aside0.mk toP
  clear toP
  go_wp2_with (first
    | (go_at_call 35; refine hsz.mono ?_; rintro e w1 ⟨rfl, hd⟩; have b1 := Aside0.mk hd.below)
    | (go_at_call 37; first
        | (with_reducible refine (TOP.out w1 b1.out).mono ?_; rintro e w2 ⟨A2, c2, rfl, hc2, hC2, hB2, b2⟩)
        | (with_reducible refine (TOP.out w3 b3.out).mono ?_; rintro e w4 ⟨A4, c4, rfl, hc4, hC4, hB4, b4⟩)
        | (with_reducible refine (TOP.out w5 b5.out).mono ?_; rintro e w6 ⟨A6, c6, rfl, hc6, hC6, hB6, b6⟩))
    | (go_at_call 122; refine (H1.out A2 c2 w2 hC2.out hc2.out).mono ?_; rintro e w3 ⟨rfl, hB3⟩; have b3 := Aside0.mk (b2.out.trans (hB3.mono b2.out.size)))
    | (go_at_call 123; refine (H2.out A4 c4 w4 hC4.out hc4.out).mono ?_; rintro e w5 ⟨rfl, hB5⟩; have b5 := Aside0.mk (b4.out.trans (hB5.mono b4.out.size)); have C4 := Aside0.mk (Kd.C_below hC4.out hB5))
    | (go_at_call 39; refine (laws_eqPegS.calls k A4 c4 ps A6 c6 ps true w6 (Kd.C_below C4.out hB6.out) hc4.out hC6.out hc6.out HE.out).mono ?_; rintro e w7 ⟨rfl, hB7⟩; have b7 := Aside0.mk (b6.out.trans (hB7.mono b6.out.size))))
  go_ret
  exact ⟨rfl, b7.out⟩
set_option maxRecDepth 100000 in
set_option maxHeartbeats 2000000 in
theorem law12_big {l : List S97} (hs : 1048576 < l.length) (hm : l.length ≤ maxLen) (A0 : Option Addr) (c0 : Nat) (w : World) (hr0 : Kd.C k97 w A0 l.length l) (hc0 : l.length ≤ c0) :
    Calls Try.prog 12 #[.slice A0 l.length c0] w fun e w' => e = .returned (.bool true) ∧ Below w.heap.size w w' := by
  have hm' : l.length ≤ 9223372036854775807 := hm
  have e1 : wrap64 ((1048576 : Int) - (l.length : Int)) < 0 := by
    unfold wrap64
    omega
  have hsz := laws_szPegS.calls A0 c0 l 1048576 (-1) w hr0 hc0 (by unfold laws_szPegS.f; rw [if_pos e1])
  clear e1 hr0 hc0 hs
  go_enter Try.func12, Try.ntmps12
  go_wp2_with (go_at_call 35; refine hsz.mono ?_; rintro e w1 ⟨rfl, hd⟩; have b1 := Aside0.mk hd.below)
  go_ret
  exact ⟨rfl, b1.out⟩
end Go.Proofs.YtphpdfcblchpnaaL
