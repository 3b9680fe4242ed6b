/- keep.dump, where it marks. -/
import Derived.Test.YtkkkfaifkmmhpaaGreatDoorKB
namespace Go.Proofs.YtkkkfaifkmmhpaaGreatDoor
open Go.RowKit
set_option maxRecDepth 100000

theorem callW {u x : World} {p g len cap : Nat} {C : Array Value} {nW nP nB : Nat} {oW oP oB : Nat → Prop} (h : KSt u p C nW nP nB oW oP oB) (ho : Only [] u x) (hr : Row u 3 1 el0 (.slice (some ⟨g, 0, none⟩) len cap) len)
    (hg : ¬ oW g ∧ ¬ oP g ∧ ¬ oB g) (hn : nW ≤ 1000) (hl : len ≤ 2000) :
    Calls Tryz.prog 77 #[.pointer (some ⟨p, 2, none⟩), .slice (some ⟨g, 0, none⟩) len cap] x fun e w' => KMark x p C (nW + 8) nP nB (own1 x w' oW (.slice (some ⟨g, 0, none⟩) len cap)) oP oB oW (.slice (some ⟨g, 0, none⟩) len cap) e w' := by
  have h' := h.fr (Fr.of_only ho fun _ => False) (by simp) (by simp)
  have hr' := hr.only ho (by simp)
  obtain ⟨a1, a2, a3, a4, a5, a6, a7⟩ := h'.fw
  refine (markW oW p C g cap len nW a2 a4 a1 a3 x h'.size h'.kp a5 a6 a7 (fun y hy => (h'.bd y (.inl hy)).1) hr' hg.1 hn hl).mono fun e w' hm => ?_
  refine h'.mark_qW (fun y hy => ?_) hm
  simp [Value.ownBlock] at hy
  subst hy
  exact ⟨hr'.lt rfl, hr'.ne h'.kp (by decide), hg.2.1, hg.2.2⟩

theorem callP {u x : World} {p g len cap : Nat} {C : Array Value} {nW nP nB : Nat} {oW oP oB : Nat → Prop} (h : KSt u p C nW nP nB oW oP oB) (ho : Only [] u x) (hr : Row u 139 3 el0 (.slice (some ⟨g, 0, none⟩) len cap) len)
    (hg : ¬ oW g ∧ ¬ oP g ∧ ¬ oB g) (hn : nP ≤ 1000) (hl : len ≤ 2000) :
    Calls Tryz.prog 78 #[.pointer (some ⟨p, 2, none⟩), .slice (some ⟨g, 0, none⟩) len cap] x fun e w' => KMark x p C nW (nP + 8) nB oW (own1 x w' oP (.slice (some ⟨g, 0, none⟩) len cap)) oB oP (.slice (some ⟨g, 0, none⟩) len cap) e w' := by
  have h' := h.fr (Fr.of_only ho fun _ => False) (by simp) (by simp)
  have hr' := hr.only ho (by simp)
  obtain ⟨a1, a2, a3, a4, a5, a6, a7⟩ := h'.fp
  refine (markP oP p C g cap len nP a2 a4 a1 a3 x h'.size h'.kp a5 a6 a7 (fun y hy => (h'.bd y (.inr (.inl hy))).1) hr' hg.2.1 hn hl).mono fun e w' hm => ?_
  refine h'.mark_qP (fun y hy => ?_) hm
  simp [Value.ownBlock] at hy
  subst hy
  exact ⟨hr'.lt rfl, hr'.ne h'.kp (by decide), hg.1, hg.2.2⟩

theorem callB {u x : World} {p : Nat} {C : Array Value} {nW nP nB : Nat} {oW oP oB : Nat → Prop} (h : KSt u p C nW nP nB oW oP oB) (ho : Only [] u x) (hn : nB ≤ 1000) :
    Calls Tryz.prog 64 #[.pointer (some ⟨p, 2, none⟩), .slice none 0 0] x fun e w' => KMark x p C nW nP (nB + 8) oW oP (own1 x w' oB (.slice none 0 0)) oB (.slice none 0 0) e w' := by
  have h' := h.fr (Fr.of_only ho fun _ => False) (by simp) (by simp)
  obtain ⟨a1, a2, a3, a4, a5, a6, a7⟩ := h'.fb
  refine (markB oB p C nB a2 a4 a1 a3 x h'.size h'.kp a5 a6 a7 (fun y hy => (h'.bd y (.inr (.inr hy))).1) hn).mono fun e w' hm => ?_
  exact h'.mark_qB (fun y hy => by simp [Value.ownBlock] at hy) hm

/-- What a dump is that is handed to keep.dump. -/
structure DumpIn (w : World) (n gw cw gp cp : Nat) : Prop where
  rw : Row w 3 1 el0 (.slice (some ⟨gw, 0, none⟩) (n * 64) cw) (n * 64)
  rp : Row w 139 3 el0 (.slice (some ⟨gp, 0, none⟩) n cp) n

theorem DumpIn.only {w w' : World} {n gw cw gp cp : Nat} (h : DumpIn w n gw cw gp cp) (ho : Only [] w w') : DumpIn w' n gw cw gp cp := ⟨h.rw.only ho (by simp), h.rp.only ho (by simp)⟩

abbrev dumpV (n gw cw gp cp : Nat) : Value := .agg (dumpC (.slice (some ⟨gw, 0, none⟩) (n * 64) cw) (.slice (some ⟨gp, 0, none⟩) n cp) (fun _ => -1))

def DumpMarked (w : World) (p : Nat) (C : Array Value) (nW nP nB : Nat) (oW oP oB : Nat → Prop) (gw gp : Nat) (e : Ending) (w' : World) : Prop :=
  e = .returned (.bool true) ∧ (∃ C' oW' oP' oB', KSt w' p C' (nW + 8) (nP + 8) (nB + 8) oW' oP' oB' ∧ (∀ i, i < 8 → C'[i]? = C[i]?) ∧ ∀ x, oW' x ∨ oP' x ∨ oB' x → oW x ∨ oP x ∨ oB x ∨ x = gw ∨ x = gp ∨ w.heap.size ≤ x) ∧
    Fr (fun x => x = p ∨ oW x ∨ oP x ∨ oB x ∨ x = gw ∨ x = gp) w w'

theorem onlyOf {ex : Nat → Prop} {w x y : World} (_ : Fr ex x y) (h : Only [] w x) : Only [] w x := h
theorem box_out {w : World} {p n gw cw nW nP nB : Nat} {C : Array Value} {oW oP oB : Nat → Prop} {te : TypeId} {sz len : Nat} (h : KSt w p C nW nP nB oW oP oB) (hr : Row w te sz el0 (.slice (some ⟨gw, 0, none⟩) n cw) len) :
    ¬ (w.heap.size = p ∨ oW w.heap.size ∨ (Value.slice (some ⟨gw, 0, none⟩) n cw).ownBlock = some w.heap.size) := by
  rintro (h1 | h1 | h1)
  · have := h.kp.lt; omega
  · have := (h.bd _ (.inl h1)).1; omega
  · have := hr.lt h1; omega
theorem box_out2 {w : World} {p n gw cw nW nP nB : Nat} {C : Array Value} {oW oP oB : Nat → Prop} {te : TypeId} {sz len : Nat} (h : KSt w p C nW nP nB oW oP oB) (hr : Row w te sz el0 (.slice (some ⟨gw, 0, none⟩) n cw) len) :
    ¬ (w.heap.size = p ∨ oP w.heap.size ∨ (Value.slice (some ⟨gw, 0, none⟩) n cw).ownBlock = some w.heap.size) := by
  rintro (h1 | h1 | h1)
  · have := h.kp.lt; omega
  · have := (h.bd _ (.inr (.inl h1))).1; omega
  · have := hr.lt h1; omega
theorem rp_out {w : World} {p n gw cw gp cp m l1 l2 nW nP nB : Nat} {C : Array Value} {oW oP oB : Nat → Prop} (h : KSt w p C nW nP nB oW oP oB) (hr : Row w 3 1 el0 (.slice (some ⟨gw, 0, none⟩) n cw) l1) (hp : Row w 139 3 el0 (.slice (some ⟨gp, 0, none⟩) m cp) l2) (hg : ¬ oW gp) :
    ∀ b, (Value.slice (some ⟨gp, 0, none⟩) m cp).ownBlock = some b → ¬ (b = p ∨ oW b ∨ (Value.slice (some ⟨gw, 0, none⟩) n cw).ownBlock = some b) := by
  intro b hb
  have hbb := hb
  simp [Value.ownBlock] at hb
  subst hb
  rintro (h1 | h1 | h1)
  · exact hp.ne h.kp (by decide) h1
  · exact hg h1
  · exact hr.typed hp (by decide) h1 hbb
theorem gp_out {w x u2 : World} {n gw cw gp cp m l1 l2 : Nat} {oW : Nat → Prop} (hx : Only [] w x) (hr : Row w 3 1 el0 (.slice (some ⟨gw, 0, none⟩) n cw) l1) (hp : Row w 139 3 el0 (.slice (some ⟨gp, 0, none⟩) m cp) l2) (hg : ¬ oW gp) :
    ¬ own1 x u2 oW (.slice (some ⟨gw, 0, none⟩) n cw) gp := by
  rintro (h1 | h1 | h1)
  · exact hg h1
  · exact hr.typed hp (by decide) h1 rfl
  · have := hp.lt (b := gp) rfl; have := hx.size; omega
theorem dump_end {w x u2 u3 u4 : World} {p n gw cw gp cp m l1 l2 nW nP nB : Nat} {C C1 C2 C3 : Array Value} {oW oP oB : Nat → Prop} (h : KSt w p C nW nP nB oW oP oB) (hr : Row w 3 1 el0 (.slice (some ⟨gw, 0, none⟩) n cw) l1) (hp : Row w 139 3 el0 (.slice (some ⟨gp, 0, none⟩) m cp) l2)
    (hx : Only [] w x) (f2 : Fr (fun y => y = p ∨ oW y ∨ (Value.slice (some ⟨gw, 0, none⟩) n cw).ownBlock = some y) x u2) (f3 : Fr (fun y => y = p ∨ oP y ∨ (Value.slice (some ⟨gp, 0, none⟩) m cp).ownBlock = some y) u2 u3) (f4 : Fr (fun y => y = p ∨ oB y ∨ (Value.slice none 0 0).ownBlock = some y) u3 u4)
    (hk : KSt u4 p C3 (nW + 8) (nP + 8) (nB + 8) (own1 x u2 oW (.slice (some ⟨gw, 0, none⟩) n cw)) (own1 u2 u3 oP (.slice (some ⟨gp, 0, none⟩) m cp)) (own1 u3 u4 oB (.slice none 0 0)))
    (e1 : ∀ i, i < 8 → C1[i]? = C[i]?) (e2 : ∀ i, i < 8 → C2[i]? = C1[i]?) (e3 : ∀ i, i < 8 → C3[i]? = C2[i]?) : DumpMarked w p C nW nP nB oW oP oB gw gp (.returned (.bool true)) u4 := by
  have s0 := hx.size
  have s2 := f2.size
  have s3 := f3.size
  refine ⟨rfl, ⟨C3, _, _, _, hk, fun i hi => (e3 i hi).trans ((e2 i hi).trans (e1 i hi)), ?_⟩, ?_⟩
  · intro y hy
    simp only [own1, Value.ownBlock, Option.some.injEq] at hy
    rcases hy with (hy | hy | hy) | (hy | hy | hy) | (hy | hy | hy)
    · exact .inl hy
    · exact .inr (.inr (.inr (.inl hy.symm)))
    · exact .inr (.inr (.inr (.inr (.inr (by omega)))))
    · exact .inr (.inl hy)
    · exact .inr (.inr (.inr (.inr (.inl hy.symm))))
    · exact .inr (.inr (.inr (.inr (.inr (by omega)))))
    · exact .inr (.inr (.inl hy))
    · cases hy
    · exact .inr (.inr (.inr (.inr (.inr (by omega)))))
  · have g0 : Fr (fun y => y = p ∨ oW y ∨ oP y ∨ oB y ∨ y = gw ∨ y = gp) w x := Fr.of_only hx _
    refine ((g0.trans f2 ?_).trans f3 ?_).trans f4 ?_
    all_goals
      intro y _ hy
      simp only [Value.ownBlock, Option.some.injEq] at hy
      grind

set_option maxHeartbeats 4000000 in
theorem dumpM (n gw cw gp cp hw dw hp dp p l1 l2 k1 k2 nW nP nB : Nat) (v1 v2 : Option Addr) (C : Array Value) (oW oP oB : Nat → Prop) (w : World) (hn : n ≤ 24) (h : KSt w p C nW nP nB oW oP oB)
    (c2 : C[2]? = some (.slice v1 l1 k1)) (c6 : C[6]? = some (.slice v2 l2 k2)) (hl : l1 + l2 ≤ 30) (d : DumpIn w n gw cw gp cp) (d' : DumpIn w n hw dw hp dp)
    (hgw : ¬ oW gw ∧ ¬ oP gw ∧ ¬ oB gw) (hgp : ¬ oW gp ∧ ¬ oP gp ∧ ¬ oB gp) (b1 : nW ≤ 900) (b2 : nP ≤ 900) (b3 : nB ≤ 900) :
    Calls Tryz.prog 30 #[.pointer (some ⟨p, 2, none⟩), dumpV n gw cw gp cp, dumpV n hw dw hp dp, .bool false] w (DumpMarked w p C nW nP nB oW oP oB gw gp) := by
  have H := Lib.hid h
  have CC2 := Lib.hid c2
  have CC6 := Lib.hid c6
  have D := Lib.hid d
  have D' := Lib.hid d'
  have HGW := Lib.hid hgw
  have HGP := Lib.hid hgp
  clear h c2 c6 d d' hgw hgp
  go_enter Tryz.func30, Tryz.ntmps30
  have heq : ∀ w : World, (Op.equalIn 10000 68 (.agg #[.int .i64 (-1), .int .i64 (-1), .int .i64 (-1), .int .i64 (-1), .int .i64 (-1), .int .i64 (-1), .int .i64 (-1), .int .i64 (-1)]) (.agg #[.int .i64 (-1), .int .i64 (-1), .int .i64 (-1), .int .i64 (-1), .int .i64 (-1), .int .i64 (-1), .int .i64 (-1), .int .i64 (-1)])).run Tryz.prog w = .ok true w := fun w => by kernel_rfl
  go_wp2_with (first
    | (go_at_call 75
       refine (sameI gw cw hw dw (n * 64) _ (by omega) (D.out.rw.only (S := []) (((Only.refl _ _).alloc _).alloc _) (by simp)) (D'.out.rw.only (S := []) (((Only.refl _ _).alloc _).alloc _) (by simp))).mono ?_
       rintro e u0 ⟨rfl, hd⟩
       have o0 : Only [] w u0 := (((Only.refl _ _).alloc _).alloc _).trans hd.only
       have bx1 : Blk u0 w.heap.size (dumpC (.slice (some ⟨gw, 0, none⟩) (n * 64) cw) (.slice (some ⟨gp, 0, none⟩) n cp) (fun _ => -1)) 70 := ((Blk.new _ _ rfl).alloc _).only hd.only (by simp)
       have bx2 : Blk u0 (w.heap.size + 1) (dumpC (.slice (some ⟨hw, 0, none⟩) (n * 64) dw) (.slice (some ⟨hp, 0, none⟩) n dp) (fun _ => -1)) 70 := (Blk.new _ _ (by simp)).only hd.only (by simp)
       have q0 := bx1.cell 0
       have r0 := bx2.cell 0
       have q1 := bx1.cell 1
       have r1 := bx2.cell 1
       have q2 := bx1.cell 2
       have r2 := bx2.cell 2
       have q3 := bx1.cell 3
       have r3 := bx2.cell 3
       have q4 := bx1.cell 4
       have r4 := bx2.cell 4
       have q5 := bx1.cell 5
       have r5 := bx2.cell 5
       have q6 := bx1.cell 6
       have r6 := bx2.cell 6
       have q7 := bx1.cell 7
       have r7 := bx2.cell 7
       have q8 := bx1.cell 8
       have r8 := bx2.cell 8
       have q9 := bx1.cell 9
       have r9 := bx2.cell 9
       have q10 := bx1.cell 10
       have r10 := bx2.cell 10
       have q11 := bx1.cell 11
       have r11 := bx2.cell 11
       simp only [List.getElem?_toArray, List.getElem?_cons_zero, List.getElem?_cons_succ] at q0 r0 q1 r1 q2 r2 q3 r3 q4 r4 q5 r5 q6 r6 q7 r7 q8 r8 q9 r9 q10 r10 q11 r11
       have BX1 := Lib.hid bx1
       have O0 := Lib.hid o0
       have H0 := Lib.hid (H.out.fr (Fr.of_only o0 fun _ => False) (by simp) (by simp))
       have D0 := Lib.hid (D.out.only o0)
       have D0' := Lib.hid (D'.out.only o0)
       clear hd o0 bx1 bx2)
    | (go_at_call 76
       refine (sameP gp cp hp dp n _ (by omega) (D0.out.rp.only (S := []) (by repeat' first | exact Only.refl _ _ | refine Only.drewN ?_ _) (by simp)) (D0'.out.rp.only (S := []) (by repeat' first | exact Only.refl _ _ | refine Only.drewN ?_ _) (by simp))).mono ?_
       rintro e u1 ⟨rfl, m, rfl⟩)
    | (go_at_call 62
       refine (sameB _).mono ?_
       rintro e u1 ⟨rfl, m, rfl⟩)
    | (go_at_call 63
       refine (manyF p l1 l2 k1 k2 v1 v2 _ hl (((H0.out.kp.only (S := []) (by repeat' first | exact Only.refl _ _ | refine Only.drewN ?_ _) (by simp)).cell 2).trans CC2.out) (((H0.out.kp.only (S := []) (by repeat' first | exact Only.refl _ _ | refine Only.drewN ?_ _) (by simp)).cell 6).trans CC6.out)).mono ?_
       rintro e u1 ⟨rfl, m, rfl⟩)
    | (go_at_call 77
       refine (callW H0.out (by repeat' first | exact Only.refl _ _ | refine Only.drewN ?_ _) D0.out.rw HGW.out (by omega) (by omega)).mono ?_
       rintro e u2 ⟨rfl, ⟨C1, hk, hc1⟩, hf⟩
       have bx := (BX1.out.only (S := []) (by repeat' first | exact Only.refl _ _ | refine Only.drewN ?_ _) (by simp)).fr hf (box_out H.out D.out.rw)
       have q1 := bx.cell 1
       have q2 := bx.cell 2
       simp only [List.getElem?_toArray, List.getElem?_cons_zero, List.getElem?_cons_succ] at q1 q2
       have rp := (D0.out.rp.only (S := []) (by repeat' first | exact Only.refl _ _ | refine Only.drewN ?_ _) (by simp)).fr hf (rp_out H.out D.out.rw D.out.rp HGP.out.1)
       have BX2 := Lib.hid bx
       have HK2 := Lib.hid hk
       have HC2 := Lib.hid hc1
       have HF2 := Lib.hid hf
       have RP2 := Lib.hid rp
       have OX2 := Lib.hid (onlyOf hf (O0.out.trans (by repeat' first | exact Only.refl _ _ | refine Only.drewN ?_ _)))
       clear bx hk hc1 hf rp)
    | (go_at_call 78
       refine (callP HK2.out (Only.refl _ _) RP2.out ⟨gp_out OX2.out D.out.rw D.out.rp HGP.out.1, HGP.out.2.1, HGP.out.2.2⟩ (by omega) (by omega)).mono ?_
       rintro e u3 ⟨rfl, ⟨C2, hk, hc2⟩, hf⟩
       have bx := BX2.out.fr hf (box_out2 H.out D.out.rp)
       have q3 := bx.cell 2
       simp only [List.getElem?_toArray, List.getElem?_cons_zero, List.getElem?_cons_succ] at q3
       have HK3 := Lib.hid hk
       have HC3 := Lib.hid hc2
       have HF3 := Lib.hid hf
       clear bx hk hc2 hf)
    | (go_at_call 64
       refine (callB HK3.out (Only.refl _ _) (by omega)).mono ?_
       rintro e u4 ⟨rfl, ⟨C3, hk, hc3⟩, hf⟩
       have HK4 := Lib.hid hk
       have HC4 := Lib.hid hc3
       have HF4 := Lib.hid hf
       clear hk hc3 hf))
  go_ret
  exact dump_end H.out D.out.rw D.out.rp OX2.out HF2.out HF3.out HF4.out HK4.out HC2.out HC3.out HC4.out
end Go.Proofs.YtkkkfaifkmmhpaaGreatDoor
