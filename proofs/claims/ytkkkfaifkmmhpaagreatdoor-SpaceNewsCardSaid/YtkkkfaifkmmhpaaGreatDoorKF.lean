/- keep.apart. -/
import Derived.Test.YtkkkfaifkmmhpaaGreatDoorKE
namespace Go.Proofs.YtkkkfaifkmmhpaaGreatDoor
open Go.RowKit
set_option maxRecDepth 100000

/-- A kept list of one entry. -/
def One (w : World) (C : Array Value) (c b : Nat) (v : Value) : Prop := ∃ k, C[c]? = some (.slice (some ⟨b, 0, none⟩) 1 k) ∧ Row w (tfOf c) 1 (fun _ => v) (.slice (some ⟨b, 0, none⟩) 1 k) 1

theorem One.fr {ex : Nat → Prop} {w w' : World} {C C' : Array Value} {c b : Nat} {v : Value} (h : One w C c b v) (hf : Fr ex w w') (hb : ¬ ex b) (hC : C'[c]? = C[c]?) : One w' C' c b v := by
  obtain ⟨k, h1, h2⟩ := h
  exact ⟨k, hC.trans h1, h2.fr hf fun x hx => by simp [Value.ownBlock] at hx; subst hx; exact hb⟩
theorem One.cell {w : World} {C : Array Value} {c b : Nat} {v : Value} (h : One w C c b v) : w.cell? ⟨b, 0, none⟩ = some v := by
  obtain ⟨k, h1, h2⟩ := h
  exact h2.cells rfl 0 (by omega)

/-- What keep.apart is called on. -/
structure ApartIn (w : World) (p : Nat) (C : Array Value) (n gw cw gp cp hw dw hp dp b2 b3 b4 b5 b6 b7 nW nP nB : Nat) (oW oP oB : Nat → Prop) : Prop where
  k : KSt w p C nW nP nB oW oP oB
  o2 : One w C 2 b2 (.slice (some ⟨gw, 0, none⟩) (n * 64) cw)
  o3 : One w C 3 b3 (.slice (some ⟨hw, 0, none⟩) (n * 64) dw)
  o4 : One w C 4 b4 (.slice (some ⟨gp, 0, none⟩) n cp)
  o5 : One w C 5 b5 (.slice (some ⟨hp, 0, none⟩) n dp)
  o6 : One w C 6 b6 (.slice none 0 0)
  o7 : One w C 7 b7 (.slice none 0 0)
  d : DumpIn w n gw cw gp cp
  d' : DumpIn w n hw dw hp dp
  own : ∀ x, x = gw ∨ x = gp ∨ x = b2 ∨ x = b4 ∨ x = b6 → ¬ oW x ∧ ¬ oP x ∧ ¬ oB x

theorem one_out {w : World} {p n gw cw c b l nW nP nB : Nat} {C : Array Value} {oW oP oB : Nat → Prop} {te : TypeId} {sz : Nat} {v : Value} (h : KSt w p C nW nP nB oW oP oB) (hr : Row w te sz el0 (.slice (some ⟨gw, 0, none⟩) n cw) l) (ho : One w C c b v) (ht : te ≠ tfOf c) (hc : (45 : TypeId) ≠ tfOf c) {o : Nat → Prop} (hb : ¬ o b) :
    ¬ (b = p ∨ o b ∨ (Value.slice (some ⟨gw, 0, none⟩) n cw).ownBlock = some b) := by
  obtain ⟨k, -, r⟩ := ho
  rintro (h1 | h1 | h1)
  · exact r.ne h.kp hc h1
  · exact hb h1
  · exact hr.typed r ht h1 rfl

/-- What keep.apart leaves. -/
def ApartPost (w : World) (p : Nat) (C : Array Value) (nW nP nB : Nat) (oW oP oB : Nat → Prop) (gw gp : Nat) (e : Ending) (w' : World) : Prop :=
  e = .returned (.bool true) ∧ ∃ w4, DumpMarked w p C nW nP nB oW oP oB gw gp (.returned (.bool true)) w4 ∧ Only [] w4 w'

set_option maxHeartbeats 4000000 in
theorem apart1 (p : Nat) (C : Array Value) (n gw cw gp cp hw dw hp dp b2 b3 b4 b5 b6 b7 nW nP nB : Nat) (oW oP oB : Nat → Prop) (w : World) (hn : n ≤ 24)
    (h : ApartIn w p C n gw cw gp cp hw dw hp dp b2 b3 b4 b5 b6 b7 nW nP nB oW oP oB) (m1 : nW ≤ 900) (m2 : nP ≤ 900) (m3 : nB ≤ 900) :
    Calls Tryz.prog 33 #[.pointer (some ⟨p, 2, none⟩)] w (ApartPost w p C nW nP nB oW oP oB gw gp) := by
  have H := Lib.hid h
  obtain ⟨k2, c2, -⟩ := h.o2
  obtain ⟨k3, c3, -⟩ := h.o3
  obtain ⟨k4, c4, -⟩ := h.o4
  obtain ⟨k5, c5, -⟩ := h.o5
  obtain ⟨k6, c6, -⟩ := h.o6
  obtain ⟨k7, c7, -⟩ := h.o7
  have x2 := (h.k.kp.cell 2).trans c2
  have x3 := (h.k.kp.cell 3).trans c3
  have x4 := (h.k.kp.cell 4).trans c4
  have x5 := (h.k.kp.cell 5).trans c5
  have x6 := (h.k.kp.cell 6).trans c6
  have x7 := (h.k.kp.cell 7).trans c7
  have y2 := h.o2.cell
  have y3 := h.o3.cell
  have y4 := h.o4.cell
  have y5 := h.o5.cell
  have y6 := h.o6.cell
  have y7 := h.o7.cell
  have CC := Lib.hid (And.intro c2 (And.intro c4 c6))
  clear h c2 c3 c4 c5 c6 c7
  go_enter Tryz.func33, Tryz.ntmps33
  go_wp2_with fail
  refine wp_loop_rounds 2 ?_
  rw [rounds_succ]
  go_wp2_with fail
  go_quiet (first
    | (go_at_call 75; exact Calls.quiet_of (sameI gw cw hw dw (n * 64) _ (by omega) (H.out.d.rw.only (S := []) ((Only.refl _ _).drewN _) (by simp)) (H.out.d'.rw.only (S := []) ((Only.refl _ _).drewN _) (by simp))))
    | (go_at_call 76; exact Calls.quiet_of (sameP gp cp hp dp n _ (by omega) (H.out.d.rp.only (S := []) ((Only.refl _ _).drewN _) (by simp)) (H.out.d'.rp.only (S := []) ((Only.refl _ _).drewN _) (by simp)))))
  go_wp2_with fail
  rw [rounds_succ]
  go_wp2_with fail
  have o1 : Only [] w (w.drewN nq) := (Only.refl _ _).drewN _
  generalize w.drewN nq = v1 at o1 ⊢
  have X2 := o1.cell x2 (by simp)
  have Y2 := o1.cell y2 (by simp)
  have X4 := o1.cell x4 (by simp)
  have Y4 := o1.cell y4 (by simp)
  have X6 := o1.cell x6 (by simp)
  have Y6 := o1.cell y6 (by simp)
  have X7 := o1.cell x7 (by simp)
  have Y7 := o1.cell y7 (by simp)
  clear x2 x3 x4 x5 x6 x7 y2 y3 y4 y5 y6 y7
  have O1 := Lib.hid o1
  clear o1
  refine wp_loop_rounds 2 ?_
  rw [rounds_succ]
  go_wp2_with fail
  go_quiet ((go_at_call 62; exact Calls.quiet_of (sameB _)))
  go_wp2_with fail
  rw [rounds_succ]
  go_wp2_with fail
  refine wp_loop_rounds 2 ?_
  rw [rounds_succ]
  go_wp2_with (first
    | (go_at_call 77
       refine (callW H.out.k (O1.out.trans (by repeat' first | exact Only.refl _ _ | refine Only.drewN ?_ _)) H.out.d.rw (H.out.own gw (by simp)) (by omega) (by omega)).mono ?_
       rintro e u2 ⟨rfl, ⟨C1, hk, hc1⟩, hf⟩
       have ox := onlyOf hf (O1.out.trans (by repeat' first | exact Only.refl _ _ | refine Only.drewN ?_ _))
       have g2 := (Fr.of_only ox (fun x => x = p ∨ oW x ∨ (Value.slice (some ⟨gw, 0, none⟩) (n * 64) cw).ownBlock = some x)).trans hf (fun _ _ h => h)
       have n4 := one_out H.out.k H.out.d.rw H.out.o4 (by decide) (by decide) (H.out.own b4 (by simp)).1
       have n6 := one_out H.out.k H.out.d.rw H.out.o6 (by decide) (by decide) (H.out.own b6 (by simp)).1
       have o4 := H.out.o4.fr g2 n4 (hc1 4 (by omega))
       have o6 := H.out.o6.fr g2 n6 (hc1 6 (by omega))
       have o2 := (hk.kp.cell 2).trans ((hc1 2 (by omega)).trans CC.out.1)
       have p4 := (hk.kp.cell 4).trans ((hc1 4 (by omega)).trans CC.out.2.1)
       have y4 := o4.cell
       have rp := H.out.d.rp.fr g2 (rp_out H.out.k H.out.d.rw H.out.d.rp (H.out.own gp (by simp)).1)
       have HK2 := Lib.hid hk
       have HC2 := Lib.hid hc1
       have HF2 := Lib.hid hf
       have G2 := Lib.hid g2
       have O4 := Lib.hid o4
       have O6 := Lib.hid o6
       have RP2 := Lib.hid rp
       have OX2 := Lib.hid ox
       clear hk hc1 hf g2 n4 n6 o4 o6 rp ox)
    | (go_at_call 78
       refine (callP HK2.out (Only.refl _ _) RP2.out ⟨gp_out OX2.out H.out.d.rw H.out.d.rp (H.out.own gp (by simp)).1, (H.out.own gp (by simp)).2.1, (H.out.own gp (by simp)).2.2⟩ (by omega) (by omega)).mono ?_
       rintro e u3 ⟨rfl, ⟨C2, hk, hc2⟩, hf⟩
       have n6 := one_out H.out.k H.out.d.rp H.out.o6 (by decide) (by decide) (H.out.own b6 (by simp)).2.1
       have o6 := O6.out.fr hf n6 (hc2 6 (by omega))
       have p2 := (hk.kp.cell 2).trans ((hc2 2 (by omega)).trans ((HC2.out 2 (by omega)).trans CC.out.1))
       have p6 := (hk.kp.cell 6).trans ((hc2 6 (by omega)).trans ((HC2.out 6 (by omega)).trans CC.out.2.2))
       have y6 := o6.cell
       have HK3 := Lib.hid hk
       have HC3 := Lib.hid hc2
       have HF3 := Lib.hid hf
       clear hk hc2 hf n6 o6))
  rw [rounds_succ]
  go_wp2_with fail
  refine wp_loop_rounds 2 ?_
  rw [rounds_succ]
  go_wp2_with (go_at_call 64
               refine (callB HK3.out (Only.refl _ _) (by omega)).mono ?_
               rintro e u4 ⟨rfl, ⟨C3, hk, hc3⟩, hf⟩
               have p6' := (hk.kp.cell 6).trans ((hc3 6 (by omega)).trans ((HC3.out 6 (by omega)).trans ((HC2.out 6 (by omega)).trans CC.out.2.2)))
               have HK4 := Lib.hid hk
               have HC4 := Lib.hid hc3
               have HF4 := Lib.hid hf
               clear hk hc3 hf)
  rw [rounds_succ]
  go_wp2_with (go_at_call 81
               refine (hold1 p C3 _ _ _ _ HK4.out.hold (by omega) (by omega) (by omega)).mono ?_
               rintro e u5 ⟨rfl, ho5⟩
               have O5 := Lib.hid ho5
               clear ho5)
  go_ret
  have de := dump_end H.out.k H.out.d.rw H.out.d.rp OX2.out HF2.out HF3.out HF4.out HK4.out HC2.out HC3.out HC4.out
  exact ⟨rfl, _, de, O5.out⟩
end Go.Proofs.YtkkkfaifkmmhpaaGreatDoor
