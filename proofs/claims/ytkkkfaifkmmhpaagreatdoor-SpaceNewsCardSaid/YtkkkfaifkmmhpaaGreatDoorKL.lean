/- pair.whole. -/
import Derived.Test.YtkkkfaifkmmhpaaGreatDoorKJ
namespace Go.Proofs.YtkkkfaifkmmhpaaGreatDoor
open Go.RowKit
set_option maxRecDepth 100000

abbrev n0 : Nat → Nat := fun _ => 0
abbrev F0 : Nat → Nat → Value := fun _ _ => .slice none 0 0

theorem upN_le (nn : Nat → Nat) (c x : Nat) : upN nn c x ≤ nn x + 1 := by
  simp only [upN]
  split <;> omega
theorem qn7_le (nn : Nat → Nat) (c : Nat) : qn7 nn c ≤ nn c + 6 := by
  have h2 : qn2 nn c ≤ nn c + 1 := upN_le _ _ _
  have h3 : qn3 nn c ≤ qn2 nn c + 1 := upN_le _ _ _
  have h4 : qn4 nn c ≤ qn3 nn c + 1 := upN_le _ _ _
  have h5 : qn5 nn c ≤ qn4 nn c + 1 := upN_le _ _ _
  have h6 : qn6 nn c ≤ qn5 nn c + 1 := upN_le _ _ _
  have h7 : qn7 nn c ≤ qn6 nn c + 1 := upN_le _ _ _
  omega

abbrev nilPair (N R : Nat) : Array Value := pairC (N + 5) (R + 4) #[nilS, nilS, nilS, nilS, nilS, nilS, nilS, nilS, nilS, nilS, nilS, nilS]
theorem nilPair_get (N R i : Nat) (h1 : 2 ≤ i) (h2 : i < 14) : (nilPair N R)[i]? = some nilS := by
  have e : nilPair N R = #[.pointer (some ⟨N + 5, 0, none⟩), .pointer (some ⟨R + 4, 0, none⟩), nilS, nilS, nilS, nilS, nilS, nilS, nilS, nilS, nilS, nilS, nilS, nilS] := by simp [nilPair, pairC]
  rw [e]
  have : i = 2 ∨ i = 3 ∨ i = 4 ∨ i = 5 ∨ i = 6 ∨ i = 7 ∨ i = 8 ∨ i = 9 ∨ i = 10 ∨ i = 11 ∨ i = 12 ∨ i = 13 := by omega
  rcases this with rfl | rfl | rfl | rfl | rfl | rfl | rfl | rfl | rfl | rfl | rfl | rfl <;> rfl

theorem PSt.start {w : World} {N R rb ob n p : Nat} (hs : Sp w N n) (hr : RSp w R rb ob n) (h1 : N + 24 ≤ R) (h2 : R + 5 ≤ p) (hb : Blk w p (nilPair N R) 45) :
    PSt w w N R rb ob n p (nilPair N R) n0 F0 0 0 0 (fun _ => False) (fun _ => False) (fun _ => False) := by
  have g := nilPair_get N R
  have nook : ∀ x, ¬ okOf (nilPair N R) x := by
    rintro x ⟨c, v, a1, a2, a3, a4⟩
    rw [g c a1 (by omega)] at a3
    cases a3
    simp [Value.ownBlock] at a4
  refine ⟨hs, hr, h1, h2, ⟨hb, by simp [nilPair, pairC], fun _ _ => rfl, fun c a1 a2 => ⟨none, 0, g c a1 (by omega), Row.nil _ _ _ _⟩, fun _ _ => rfl, fun c x v a1 a2 a3 a4 => absurd ⟨c, v, a1, a2, a3, a4⟩ (nook x), fun c c' x v v' a1 a2 _ _ _ a3 _ a4 => absurd ⟨c, v, a1, a2, a3, a4⟩ (nook x), Fr.refl _ _⟩,
    ⟨hb, by simp [nilPair, pairC], ⟨none, 0, none, 0, g 8 (by omega) (by omega), g 11 (by omega) (by omega), FullSt.nil _ _ _⟩, ⟨none, 0, none, 0, g 9 (by omega) (by omega), g 12 (by omega) (by omega), FullSt.nil _ _ _⟩, ⟨none, 0, none, 0, g 10 (by omega) (by omega), g 13 (by omega) (by omega), FullSt.nil _ _ _⟩, fun x hx => by simp at hx, fun x => by simp⟩,
    by simp [nilPair, pairC], by simp [nilPair, pairC], fun x hx => absurd hx (nook x), fun x hx => by simp at hx, fun x hx => absurd hx (nook x), Fr.refl _ _⟩

theorem qn7_one (c : Nat) (h1 : 2 ≤ c) (h2 : c < 8) : qn7 n0 c = 1 := by
  have : c = 2 ∨ c = 3 ∨ c = 4 ∨ c = 5 ∨ c = 6 ∨ c = 7 := by omega
  rcases this with rfl | rfl | rfl | rfl | rfl | rfl <;> rfl

theorem PSt.one {w0 w : World} {N R rb ob n p : Nat} {C : Array Value} {FF : Nat → Nat → Value} {nW nP nB : Nat} {oW oP oB : Nat → Prop} (h : PSt w0 w N R rb ob n p C (qn7 n0) FF nW nP nB oW oP oB) (c : Nat) (h1 : 2 ≤ c) (h2 : c < 8) (v : Value) (hv : FF c 0 = v) :
    ∃ b, One w C c b v ∧ okOf C b := by
  obtain ⟨a, k, e, r⟩ := h.q.row c h1 h2
  rw [qn7_one c h1 h2] at e r
  obtain ⟨g, k', e', -⟩ := r.at 0 (by omega)
  simp only [Value.slice.injEq] at e'
  obtain ⟨rfl, -, -⟩ := e'
  refine ⟨g, ⟨k, e, r.congr fun t ht => ?_⟩, ⟨c, _, h1, h2, e, rfl⟩⟩
  obtain rfl : t = 0 := by omega
  exact hv.symm

theorem PSt.apart {w0 w : World} {N R rb ob n p gw cw gp cp hw dw hp dp : Nat} {C : Array Value} {nW nP nB : Nat} {oW oP oB : Nat → Prop}
    (h : PSt w0 w N R rb ob n p C (qn7 n0) (qf7 F0 n0 (.slice (some ⟨gw, 0, none⟩) (n * 64) cw) (.slice (some ⟨hw, 0, none⟩) (n * 64) dw) (.slice (some ⟨gp, 0, none⟩) n cp) (.slice (some ⟨hp, 0, none⟩) n dp)) nW nP nB oW oP oB)
    (a : DNew w p oW oP oB n gw cw gp cp) (b : DNew w p oW oP oB n hw dw hp dp) (hn : n ≤ 24) (m1 : nW ≤ 900) (m2 : nP ≤ 900) (m3 : nB ≤ 900) :
    Calls Tryz.prog 33 #[.pointer (some ⟨p, 2, none⟩)] w fun e w' => e = .returned (.bool true) ∧
      ∃ C' oW' oP' oB', PSt w0 w' N R rb ob n p C' (qn7 n0) (qf7 F0 n0 (.slice (some ⟨gw, 0, none⟩) (n * 64) cw) (.slice (some ⟨hw, 0, none⟩) (n * 64) dw) (.slice (some ⟨gp, 0, none⟩) n cp) (.slice (some ⟨hp, 0, none⟩) n dp)) (nW + 8) (nP + 8) (nB + 8) oW' oP' oB' := by
  obtain ⟨b2, o2, k2⟩ := h.one 2 (by omega) (by omega) _ rfl
  obtain ⟨b3, o3, k3⟩ := h.one 3 (by omega) (by omega) _ rfl
  obtain ⟨b4, o4, k4⟩ := h.one 4 (by omega) (by omega) _ rfl
  obtain ⟨b5, o5, k5⟩ := h.one 5 (by omega) (by omega) _ rfl
  obtain ⟨b6, o6, k6⟩ := h.one 6 (by omega) (by omega) _ rfl
  obtain ⟨b7, o7, k7⟩ := h.one 7 (by omega) (by omega) _ rfl
  refine (apart1 p C n gw cw gp cp hw dw hp dp b2 b3 b4 b5 b6 b7 nW nP nB oW oP oB w hn ⟨h.k, o2, o3, o4, o5, o6, o7, a.d, b.d, ?_⟩ m1 m2 m3).mono ?_
  · rintro x (rfl | rfl | rfl | rfl | rfl)
    · exact (a.own _ (.inl rfl)).2
    · exact (a.own _ (.inr rfl)).2
    · exact h.dis _ k2
    · exact h.dis _ k4
    · exact h.dis _ k6
  · rintro e w' ⟨rfl, w4, hd, ho⟩
    obtain ⟨C', oW', oP', oB', hP, -, -⟩ := h.marked a hd
    exact ⟨rfl, C', oW', oP', oB', hP.only ho⟩

theorem Fr.below {w w' : World} {B : Nat} {p : Nat} (h : Fr (fun x => p ≤ x) w w') (h1 : B ≤ p) (h2 : B ≤ w.heap.size) : Below B w w' :=
  ⟨h.os, h.tape, h.output, h.size, fun x hx => h.block x (by omega) (by omega)⟩

set_option maxHeartbeats 1000000 in
theorem whole1 (n B p : Nat) (w : World) (h1 : 1 ≤ n) (h2 : n ≤ 24) (h : MadePair n B w p) :
    Calls Tryz.prog 7 #[.pointer (some ⟨p, 0, none⟩)] w fun e w' => e = .returned (.bool true) ∧ Below B w w' := by
  obtain ⟨N, R, rb, ob, hbn, hnr, hrp, hlt, hs, hr, hb⟩ := h
  have P0 := Lib.hid (PSt.start hs hr hnr hrp hb)
  clear hs hr hb
  go_enter Tryz.func7, Tryz.ntmps7
  go_wp2_with (first
    | (go_at_call 6; refine (looked18 N R rb ob n p _ h1 h2 P0.out.s P0.out.r P0.out.cells.1 P0.out.cells.2).mono ?_; rintro e x1 ⟨rfl, o⟩; have P1 := Lib.hid (P0.out.only o); clear P0 o)
    | (go_at_call 6; refine (looked20 w N R rb ob n p _ _ _ _ _ _ _ _ _ _ h1 h2 P1.out (by decide) (fun _ => Nat.zero_le _) (by decide) (by omega) (by omega) (by omega)).mono ?_; rintro e x2 ⟨rfl, C2, oW2, oP2, oB2, gw, cw, gp, cp, hw, dw, hp, dp, q, a, b⟩; have P2 := Lib.hid q; have A2 := Lib.hid a; have B2 := Lib.hid b; clear P1 q a b)
    | (go_at_call 33; refine (P2.out.apart A2.out B2.out h2 (by omega) (by omega) (by omega)).mono ?_; rintro e x3 ⟨rfl, C3, oW3, oP3, oB3, q⟩; have P3 := Lib.hid q; clear P2 q)
    | (go_at_call 6; refine (looked20 w N R rb ob n p _ _ _ _ _ _ _ _ _ _ h1 h2 P3.out (by decide) (fun c => Nat.le_trans (qn7_le n0 c) (by simp)) (by decide) (by omega) (by omega) (by omega)).mono ?_; rintro e x4 ⟨rfl, C4, oW4, oP4, oB4, _, _, _, _, _, _, _, _, q, -, -⟩; have P4 := Lib.hid q; clear P3 q))
  go_ret
  exact ⟨rfl, P4.out.b.below (by omega) (by omega)⟩
end Go.Proofs.YtkkkfaifkmmhpaaGreatDoor
