/- keep.dump, where it leaves the lists as they are. -/
import Derived.Test.YtkkkfaifkmmhpaaGreatDoorKD
namespace Go.Proofs.YtkkkfaifkmmhpaaGreatDoor
open Go.RowKit
set_option maxRecDepth 100000

abbrev qn2 (nn : Nat → Nat) : Nat → Nat := upN nn 2
abbrev qn3 (nn : Nat → Nat) : Nat → Nat := upN (qn2 nn) 3
abbrev qn4 (nn : Nat → Nat) : Nat → Nat := upN (qn3 nn) 4
abbrev qn5 (nn : Nat → Nat) : Nat → Nat := upN (qn4 nn) 5
abbrev qn6 (nn : Nat → Nat) : Nat → Nat := upN (qn5 nn) 6
abbrev qn7 (nn : Nat → Nat) : Nat → Nat := upN (qn6 nn) 7
abbrev qf2 (FF : Nat → Nat → Value) (nn : Nat → Nat) (a b d e : Value) : Nat → Nat → Value := upF FF nn 2 a
abbrev qf3 (FF : Nat → Nat → Value) (nn : Nat → Nat) (a b d e : Value) : Nat → Nat → Value := upF (qf2 FF nn a b d e) (qn2 nn) 3 b
abbrev qf4 (FF : Nat → Nat → Value) (nn : Nat → Nat) (a b d e : Value) : Nat → Nat → Value := upF (qf3 FF nn a b d e) (qn3 nn) 4 d
abbrev qf5 (FF : Nat → Nat → Value) (nn : Nat → Nat) (a b d e : Value) : Nat → Nat → Value := upF (qf4 FF nn a b d e) (qn4 nn) 5 e
abbrev qf6 (FF : Nat → Nat → Value) (nn : Nat → Nat) (a b d e : Value) : Nat → Nat → Value := upF (qf5 FF nn a b d e) (qn5 nn) 6 (.slice none 0 0)
abbrev qf7 (FF : Nat → Nat → Value) (nn : Nat → Nat) (a b d e : Value) : Nat → Nat → Value := upF (qf6 FF nn a b d e) (qn6 nn) 7 (.slice none 0 0)

theorem QSt.start0 {w u0 : World} {ok0 : Nat → Prop} {C : Array Value} {p : Nat} {nn : Nat → Nat} {FF : Nat → Nat → Value} (h : QSt w ok0 C p w C nn FF) (ho : Only [] w u0) : QSt u0 ok0 C p u0 C nn FF := by
  refine ⟨h.kp.only ho (by simp), h.size, h.hi, fun c h1 h2 => ?_, h.one, fun c x v h1 h2 hc hx => ?_, h.ne, Fr.refl _ _⟩
  · obtain ⟨a, k, e, r⟩ := h.row c h1 h2
    exact ⟨a, k, e, r.only ho (by simp)⟩
  · obtain ⟨a, k, e, r⟩ := h.row c h1 h2
    have : v = .slice a (nn c) k := by rw [hc] at e; simpa using e
    subst this
    rcases h.ob c x _ h1 h2 hc hx with h' | h'
    · exact .inl h'
    · have := r.lt hx; omega
theorem QSt.rebase {w u0 u : World} {ok0 : Nat → Prop} {C C' : Array Value} {p : Nat} {nn : Nat → Nat} {FF : Nat → Nat → Value} (h : QSt u0 ok0 C p u C' nn FF) (ho : Only [] w u0) : QSt w ok0 C p u C' nn FF :=
  ⟨h.kp, h.size, h.hi, h.row, h.one, fun c x v h1 h2 hc hx => by
    have := ho.size
    rcases h.ob c x v h1 h2 hc hx with h' | h'
    · exact .inl h'
    · right; omega, h.ne, (Fr.of_only ho _).trans h.fr (fun _ _ h => h)⟩
theorem setCell_far {w : World} {p c b o : Nat} {v : Value} (h : b ≠ p) : (w.setCell ⟨p, c, none⟩ v).cell? ⟨b, o, none⟩ = w.cell? ⟨b, o, none⟩ := World.cell?_of_block (heap_setCell_other h)

def DumpKept (w : World) (p : Nat) (C : Array Value) (ok0 : Nat → Prop) (nn : Nat → Nat) (FF : Nat → Nat → Value) (a b d e : Value) (r : Ending) (w' : World) : Prop :=
  r = .returned (.bool true) ∧ ∃ C', QSt w ok0 C p w' C' (qn7 nn) (qf7 FF nn a b d e)

set_option maxHeartbeats 4000000 in
theorem dumpQ (n gw cw gp cp hw dw hp dp p : Nat) (C : Array Value) (ok0 : Nat → Prop) (nn : Nat → Nat) (FF : Nat → Nat → Value) (w : World) (hn : n ≤ 24) (h : QSt w ok0 C p w C nn FF) (hok : ∀ x, ok0 x → x < w.heap.size)
    (hm : nn 2 + nn 6 ≤ 30) (hbn : ∀ c, nn c ≤ 900) (d : DumpIn w n gw cw gp cp) (d' : DumpIn w n hw dw hp dp) :
    Calls Tryz.prog 30 #[.pointer (some ⟨p, 2, none⟩), dumpV n gw cw gp cp, dumpV n hw dw hp dp, .bool true] w
      (DumpKept w p C ok0 nn FF (.slice (some ⟨gw, 0, none⟩) (n * 64) cw) (.slice (some ⟨hw, 0, none⟩) (n * 64) dw) (.slice (some ⟨gp, 0, none⟩) n cp) (.slice (some ⟨hp, 0, none⟩) n dp)) := by
  obtain ⟨a2, k2, e2, -⟩ := h.row 2 (by omega) (by omega)
  obtain ⟨a6, k6, e6, -⟩ := h.row 6 (by omega) (by omega)
  have hp0 := h.kp.lt
  have H := Lib.hid h
  have HOK := Lib.hid hok
  have HM := Lib.hid hm
  have HBN := Lib.hid hbn
  have CC2 := Lib.hid e2
  have CC6 := Lib.hid e6
  have D := Lib.hid d
  have D' := Lib.hid d'
  have HP0 := Lib.hid hp0
  clear h hok hm hbn e2 e6 d d' hp0
  go_enter Tryz.func30, Tryz.ntmps30
  have heq : ∀ w : World, (Op.equalIn 10000 68 (.agg #[.int .i64 (-1), .int .i64 (-1), .int .i64 (-1), .int .i64 (-1), .int .i64 (-1), .int .i64 (-1), .int .i64 (-1), .int .i64 (-1)]) (.agg #[.int .i64 (-1), .int .i64 (-1), .int .i64 (-1), .int .i64 (-1), .int .i64 (-1), .int .i64 (-1), .int .i64 (-1), .int .i64 (-1)])).run Tryz.prog w = .ok true w := fun w => by kernel_rfl
  go_wp2_with (first
    | (go_at_call 75
       refine (sameI gw cw hw dw (n * 64) _ (by omega) (D.out.rw.only (S := []) (((Only.refl _ _).alloc _).alloc _) (by simp)) (D'.out.rw.only (S := []) (((Only.refl _ _).alloc _).alloc _) (by simp))).mono ?_
       rintro e u0 ⟨rfl, hd⟩
       have o0 : Only [] w u0 := (((Only.refl _ _).alloc _).alloc _).trans hd.only
       have bx1 : Blk u0 w.heap.size (dumpC (.slice (some ⟨gw, 0, none⟩) (n * 64) cw) (.slice (some ⟨gp, 0, none⟩) n cp) (fun _ => -1)) 70 := ((Blk.new _ _ rfl).alloc _).only hd.only (by simp)
       have bx2 : Blk u0 (w.heap.size + 1) (dumpC (.slice (some ⟨hw, 0, none⟩) (n * 64) dw) (.slice (some ⟨hp, 0, none⟩) n dp) (fun _ => -1)) 70 := (Blk.new _ _ (by simp)).only hd.only (by simp)
       have q0 := bx1.cell 0
       have r0 := bx2.cell 0
       have q1 := bx1.cell 1
       have r1 := bx2.cell 1
       have q2 := bx1.cell 2
       have r2 := bx2.cell 2
       have q3 := bx1.cell 3
       have r3 := bx2.cell 3
       have q4 := bx1.cell 4
       have r4 := bx2.cell 4
       have q5 := bx1.cell 5
       have r5 := bx2.cell 5
       have q6 := bx1.cell 6
       have r6 := bx2.cell 6
       have q7 := bx1.cell 7
       have r7 := bx2.cell 7
       have q8 := bx1.cell 8
       have r8 := bx2.cell 8
       have q9 := bx1.cell 9
       have r9 := bx2.cell 9
       have q10 := bx1.cell 10
       have r10 := bx2.cell 10
       have q11 := bx1.cell 11
       have r11 := bx2.cell 11
       simp only [List.getElem?_toArray, List.getElem?_cons_zero, List.getElem?_cons_succ] at q0 r0 q1 r1 q2 r2 q3 r3 q4 r4 q5 r5 q6 r6 q7 r7 q8 r8 q9 r9 q10 r10 q11 r11
       have BX1 := Lib.hid bx1
       have BX2 := Lib.hid bx2
       have HPU := Lib.hid (show p < u0.heap.size by have := o0.size; have := HP0.out; omega)
       have HOKB := Lib.hid (show ¬ ok0 w.heap.size ∧ ¬ ok0 (w.heap.size + 1) ∧ w.heap.size ≠ p ∧ w.heap.size + 1 ≠ p by have := HP0.out; refine ⟨fun h => ?_, fun h => ?_, by omega, by omega⟩ <;> (have := HOK.out _ h; omega))
       have O0 := Lib.hid o0
       have H0 := Lib.hid (H.out.start0 o0)
       have D0 := Lib.hid (D.out.only o0)
       have D0' := Lib.hid (D'.out.only o0)
       clear hd o0 bx1 bx2)
    | (go_at_call 76
       refine (sameP gp cp hp dp n _ (by omega) (D0.out.rp.only (S := []) (by repeat' first | exact Only.refl _ _ | refine Only.drewN ?_ _) (by simp)) (D0'.out.rp.only (S := []) (by repeat' first | exact Only.refl _ _ | refine Only.drewN ?_ _) (by simp))).mono ?_
       rintro e u1 ⟨rfl, m, rfl⟩)
    | (go_at_call 62
       refine (sameB _).mono ?_
       rintro e u1 ⟨rfl, m, rfl⟩)
    | (go_at_call 63
       refine (manyF p (nn 2) (nn 6) k2 k6 a2 a6 _ HM.out (((H0.out.kp.only (S := []) (by repeat' first | exact Only.refl _ _ | refine Only.drewN ?_ _) (by simp)).cell 2).trans CC2.out) (((H0.out.kp.only (S := []) (by repeat' first | exact Only.refl _ _ | refine Only.drewN ?_ _) (by simp)).cell 6).trans CC6.out)).mono ?_
       rintro e u1 ⟨rfl, m, hm⟩
       have hq := H0.out.only (u' := u1) (by rw [hm]; exact (by repeat' first | exact Only.refl _ _ | refine Only.drewN ?_ _))
       have ou : Only [] u0 u1 := by rw [hm]; exact (by repeat' first | exact Only.refl _ _ | refine Only.drewN ?_ _)
       have HQ1 := Lib.hid hq
       have OU := Lib.hid ou
       have B1 := Lib.hid (BX1.out.only ou (by simp))
       have B2 := Lib.hid (BX2.out.only ou (by simp))
       clear hm hq ou q0 r0 q1 r1 q2 r2 q3 r3 q4 r4 q5 r5 q6 r6 q7 r7 q8 r8 q9 r9 q10 r10 q11 r11 heq))
  obtain ⟨a, k, ec, -⟩ := HQ1.out.row 2 (by omega) (by omega)
  have en : nn 2 = nn 2 := by first | rfl | simp [upN]
  rw [en] at ec
  have y1 : u1.cell? ⟨p, 2, none⟩ = some (.slice a (nn 2) k) := by rw [HQ1.out.kp.cell]; exact ec
  have y2 : u1.cell? ⟨w.heap.size, 0, none⟩ = some (.slice (some ⟨gw, 0, none⟩) (n * 64) cw) := by
    rw [(BX1.out.fr HQ1.out.fr (by rintro (h | h); exact HOKB.out.2.2.1 h; exact HOKB.out.1 h)).cell]; rfl
  have hpl : p < u1.heap.size := HQ1.out.kp.lt
  have EC := Lib.hid ec
  have EN := Lib.hid en
  clear ec en
  go_cut [] (fun wx => ∃ C', QSt u0 ok0 C p wx C' (qn2 nn) (qf2 FF nn (.slice (some ⟨gw, 0, none⟩) (n * 64) cw) (.slice (some ⟨hw, 0, none⟩) (n * 64) dw) (.slice (some ⟨gp, 0, none⟩) n cp) (.slice (some ⟨hp, 0, none⟩) n dp)))
  case first =>
    have hbl : w.heap.size < u1.heap.size := World.block_lt_of_cell? u1 ⟨w.heap.size, 0, none⟩ y2
    go_region_law (refine step_keep 2 HQ1.out (by first | exact ((Only.refl _ _).alloc _).drew | exact ((Only.refl _ _).drew).alloc _) (by omega) (by omega) EC.out rfl HPU.out (by have := HBN.out 2; rw [EN.out]; omega) rfl _ _ 39 27 rfl rfl (by first | exact (Blk.new _ _ (by first | rfl | simp)).drew | exact Blk.new _ _ (by first | rfl | simp)) rfl (by first | rfl | (rw [EN.out]; rfl)) rfl ?_; intro g cap w1 hq hcc; have z1 := hcc.1; have z2 := hcc.2; (try rw [EN.out] at hq); have HQ := Lib.hid hq; clear hq hcc)
    all_goals
      go_wp2_with fail
      go_meet
      exact ⟨_, HQ.out⟩
  case rest =>
  obtain ⟨C2, hq⟩ := hcut
  have HQ2 := Lib.hid hq
  clear hq y1 y2 hpl
  go_wp2_with fail
  obtain ⟨a, k, ec, -⟩ := HQ2.out.row 3 (by omega) (by omega)
  have en : (qn2 nn) 3 = nn 3 := by first | rfl | simp [upN]
  rw [en] at ec
  have y1 : wc.cell? ⟨p, 3, none⟩ = some (.slice a (nn 3) k) := by rw [HQ2.out.kp.cell]; exact ec
  have y2 : wc.cell? ⟨(w.heap.size + 1), 0, none⟩ = some (.slice (some ⟨hw, 0, none⟩) (n * 64) dw) := by
    rw [(BX2.out.fr HQ2.out.fr (by rintro (h | h); exact HOKB.out.2.2.2 h; exact HOKB.out.2.1 h)).cell]; rfl
  have hpl : p < wc.heap.size := HQ2.out.kp.lt
  have EC := Lib.hid ec
  have EN := Lib.hid en
  clear ec en
  go_cut [] (fun wx => ∃ C', QSt u0 ok0 C p wx C' (qn3 nn) (qf3 FF nn (.slice (some ⟨gw, 0, none⟩) (n * 64) cw) (.slice (some ⟨hw, 0, none⟩) (n * 64) dw) (.slice (some ⟨gp, 0, none⟩) n cp) (.slice (some ⟨hp, 0, none⟩) n dp)))
  case first =>
    have hbl : (w.heap.size + 1) < wc.heap.size := World.block_lt_of_cell? wc ⟨(w.heap.size + 1), 0, none⟩ y2
    go_region_law (refine step_keep 3 HQ2.out (by first | exact ((Only.refl _ _).alloc _).drew | exact ((Only.refl _ _).drew).alloc _) (by omega) (by omega) EC.out rfl HPU.out (by have := HBN.out 3; rw [EN.out]; omega) rfl _ _ 39 27 rfl rfl (by first | exact (Blk.new _ _ (by first | rfl | simp)).drew | exact Blk.new _ _ (by first | rfl | simp)) rfl (by first | rfl | (rw [EN.out]; rfl)) rfl ?_; intro g cap w1 hq hcc; have z1 := hcc.1; have z2 := hcc.2; (try rw [EN.out] at hq); have HQ := Lib.hid hq; clear hq hcc)
    all_goals
      go_wp2_with fail
      go_meet
      exact ⟨_, HQ.out⟩
  case rest =>
  obtain ⟨C3, hq⟩ := hcut
  have HQ3 := Lib.hid hq
  clear hq y1 y2 hpl
  go_wp2_with fail
  obtain ⟨a, k, ec, -⟩ := HQ3.out.row 4 (by omega) (by omega)
  have en : (qn3 nn) 4 = nn 4 := by first | rfl | simp [upN]
  rw [en] at ec
  have y1 : wc.cell? ⟨p, 4, none⟩ = some (.slice a (nn 4) k) := by rw [HQ3.out.kp.cell]; exact ec
  have y2 : wc.cell? ⟨w.heap.size, 1, none⟩ = some (.slice (some ⟨gp, 0, none⟩) n cp) := by
    rw [(BX1.out.fr HQ3.out.fr (by rintro (h | h); exact HOKB.out.2.2.1 h; exact HOKB.out.1 h)).cell]; rfl
  have hpl : p < wc.heap.size := HQ3.out.kp.lt
  have EC := Lib.hid ec
  have EN := Lib.hid en
  clear ec en
  go_cut [] (fun wx => ∃ C', QSt u0 ok0 C p wx C' (qn4 nn) (qf4 FF nn (.slice (some ⟨gw, 0, none⟩) (n * 64) cw) (.slice (some ⟨hw, 0, none⟩) (n * 64) dw) (.slice (some ⟨gp, 0, none⟩) n cp) (.slice (some ⟨hp, 0, none⟩) n dp)))
  case first =>
    have hbl : w.heap.size < wc.heap.size := World.block_lt_of_cell? wc ⟨w.heap.size, 1, none⟩ y2
    go_region_law (refine step_keep 4 HQ3.out (by first | exact ((Only.refl _ _).alloc _).drew | exact ((Only.refl _ _).drew).alloc _) (by omega) (by omega) EC.out rfl HPU.out (by have := HBN.out 4; rw [EN.out]; omega) rfl _ _ 40 67 rfl rfl (by first | exact (Blk.new _ _ (by first | rfl | simp)).drew | exact Blk.new _ _ (by first | rfl | simp)) rfl (by first | rfl | (rw [EN.out]; rfl)) rfl ?_; intro g cap w1 hq hcc; have z1 := hcc.1; have z2 := hcc.2; (try rw [EN.out] at hq); have HQ := Lib.hid hq; clear hq hcc)
    all_goals
      go_wp2_with fail
      go_meet
      exact ⟨_, HQ.out⟩
  case rest =>
  obtain ⟨C4, hq⟩ := hcut
  have HQ4 := Lib.hid hq
  clear hq y1 y2 hpl
  go_wp2_with fail
  obtain ⟨a, k, ec, -⟩ := HQ4.out.row 5 (by omega) (by omega)
  have en : (qn4 nn) 5 = nn 5 := by first | rfl | simp [upN]
  rw [en] at ec
  have y1 : wc.cell? ⟨p, 5, none⟩ = some (.slice a (nn 5) k) := by rw [HQ4.out.kp.cell]; exact ec
  have y2 : wc.cell? ⟨(w.heap.size + 1), 1, none⟩ = some (.slice (some ⟨hp, 0, none⟩) n dp) := by
    rw [(BX2.out.fr HQ4.out.fr (by rintro (h | h); exact HOKB.out.2.2.2 h; exact HOKB.out.2.1 h)).cell]; rfl
  have hpl : p < wc.heap.size := HQ4.out.kp.lt
  have EC := Lib.hid ec
  have EN := Lib.hid en
  clear ec en
  go_cut [] (fun wx => ∃ C', QSt u0 ok0 C p wx C' (qn5 nn) (qf5 FF nn (.slice (some ⟨gw, 0, none⟩) (n * 64) cw) (.slice (some ⟨hw, 0, none⟩) (n * 64) dw) (.slice (some ⟨gp, 0, none⟩) n cp) (.slice (some ⟨hp, 0, none⟩) n dp)))
  case first =>
    have hbl : (w.heap.size + 1) < wc.heap.size := World.block_lt_of_cell? wc ⟨(w.heap.size + 1), 1, none⟩ y2
    go_region_law (refine step_keep 5 HQ4.out (by first | exact ((Only.refl _ _).alloc _).drew | exact ((Only.refl _ _).drew).alloc _) (by omega) (by omega) EC.out rfl HPU.out (by have := HBN.out 5; rw [EN.out]; omega) rfl _ _ 40 67 rfl rfl (by first | exact (Blk.new _ _ (by first | rfl | simp)).drew | exact Blk.new _ _ (by first | rfl | simp)) rfl (by first | rfl | (rw [EN.out]; rfl)) rfl ?_; intro g cap w1 hq hcc; have z1 := hcc.1; have z2 := hcc.2; (try rw [EN.out] at hq); have HQ := Lib.hid hq; clear hq hcc)
    all_goals
      go_wp2_with fail
      go_meet
      exact ⟨_, HQ.out⟩
  case rest =>
  obtain ⟨C5, hq⟩ := hcut
  have HQ5 := Lib.hid hq
  clear hq y1 y2 hpl
  go_wp2_with fail
  obtain ⟨a, k, ec, -⟩ := HQ5.out.row 6 (by omega) (by omega)
  have en : (qn5 nn) 6 = nn 6 := by first | rfl | simp [upN]
  rw [en] at ec
  have y1 : wc.cell? ⟨p, 6, none⟩ = some (.slice a (nn 6) k) := by rw [HQ5.out.kp.cell]; exact ec
  have y2 : wc.cell? ⟨w.heap.size, 2, none⟩ = some (.slice none 0 0) := by
    rw [(BX1.out.fr HQ5.out.fr (by rintro (h | h); exact HOKB.out.2.2.1 h; exact HOKB.out.1 h)).cell]; rfl
  have hpl : p < wc.heap.size := HQ5.out.kp.lt
  have EC := Lib.hid ec
  have EN := Lib.hid en
  clear ec en
  go_cut [] (fun wx => ∃ C', QSt u0 ok0 C p wx C' (qn6 nn) (qf6 FF nn (.slice (some ⟨gw, 0, none⟩) (n * 64) cw) (.slice (some ⟨hw, 0, none⟩) (n * 64) dw) (.slice (some ⟨gp, 0, none⟩) n cp) (.slice (some ⟨hp, 0, none⟩) n dp)))
  case first =>
    have hbl : w.heap.size < wc.heap.size := World.block_lt_of_cell? wc ⟨w.heap.size, 2, none⟩ y2
    go_region_law (refine step_keep 6 HQ5.out (by first | exact ((Only.refl _ _).alloc _).drew | exact ((Only.refl _ _).drew).alloc _) (by omega) (by omega) EC.out rfl HPU.out (by have := HBN.out 6; rw [EN.out]; omega) rfl _ _ 41 59 rfl rfl (by first | exact (Blk.new _ _ (by first | rfl | simp)).drew | exact Blk.new _ _ (by first | rfl | simp)) rfl (by first | rfl | (rw [EN.out]; rfl)) rfl ?_; intro g cap w1 hq hcc; have z1 := hcc.1; have z2 := hcc.2; (try rw [EN.out] at hq); have HQ := Lib.hid hq; clear hq hcc)
    all_goals
      go_wp2_with fail
      go_meet
      exact ⟨_, HQ.out⟩
  case rest =>
  obtain ⟨C6, hq⟩ := hcut
  have HQ6 := Lib.hid hq
  clear hq y1 y2 hpl
  go_wp2_with fail
  obtain ⟨a, k, ec, -⟩ := HQ6.out.row 7 (by omega) (by omega)
  have en : (qn6 nn) 7 = nn 7 := by first | rfl | simp [upN]
  rw [en] at ec
  have y1 : wc.cell? ⟨p, 7, none⟩ = some (.slice a (nn 7) k) := by rw [HQ6.out.kp.cell]; exact ec
  have y2 : wc.cell? ⟨(w.heap.size + 1), 2, none⟩ = some (.slice none 0 0) := by
    rw [(BX2.out.fr HQ6.out.fr (by rintro (h | h); exact HOKB.out.2.2.2 h; exact HOKB.out.2.1 h)).cell]; rfl
  have hpl : p < wc.heap.size := HQ6.out.kp.lt
  have EC := Lib.hid ec
  have EN := Lib.hid en
  clear ec en
  have hbl : (w.heap.size + 1) < wc.heap.size := World.block_lt_of_cell? wc ⟨(w.heap.size + 1), 2, none⟩ y2
  go_region_law (refine step_keep 7 HQ6.out (by first | exact ((Only.refl _ _).alloc _).drew | exact ((Only.refl _ _).drew).alloc _) (by omega) (by omega) EC.out rfl HPU.out (by have := HBN.out 7; rw [EN.out]; omega) rfl _ _ 41 59 rfl rfl (by first | exact (Blk.new _ _ (by first | rfl | simp)).drew | exact Blk.new _ _ (by first | rfl | simp)) rfl (by first | rfl | (rw [EN.out]; rfl)) rfl ?_; intro g cap w1 hq hcc; have z1 := hcc.1; have z2 := hcc.2; (try rw [EN.out] at hq); have HQ := Lib.hid hq; clear hq hcc)
  all_goals
    go_wp2_with fail
    go_ret
    exact ⟨rfl, _, HQ.out.rebase O0.out⟩
end Go.Proofs.YtkkkfaifkmmhpaaGreatDoor
