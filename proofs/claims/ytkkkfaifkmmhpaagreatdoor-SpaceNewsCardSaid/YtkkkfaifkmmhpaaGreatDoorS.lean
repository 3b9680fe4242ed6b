/- An empty reference space: Dump. -/
import Derived.Test.YtkkkfaifkmmhpaaGreatDoorR
namespace Go.Proofs.YtkkkfaifkmmhpaaGreatDoor
open Go.RowKit
set_option maxRecDepth 100000

theorem keepE {u x w1 : World} {a1 a2 a3 a4 : Addr} {v1 v2 v3 v4 : Value} (h : Only [] u x ∧ x.cell? a1 = some v1 ∧ x.cell? a2 = some v2 ∧ x.cell? a3 = some v3 ∧ x.cell? a4 = some v4) (ho : Only [] x w1) :
    Only [] u w1 ∧ w1.cell? a1 = some v1 ∧ w1.cell? a2 = some v2 ∧ w1.cell? a3 = some v3 ∧ w1.cell? a4 = some v4 :=
  ⟨h.1.trans ho, ho.cell h.2.1 (by simp), ho.cell h.2.2.1 (by simp), ho.cell h.2.2.2.1 (by simp), ho.cell h.2.2.2.2 (by simp)⟩

theorem callBlocksR {N rb ob n : Nat} {u w : World} {R : Prop} (h1 : 1 ≤ n) (h2 : n ≤ 24) (hu : RSp u N rb ob n) (hS : Only [] u w ∧ R) :
    Calls Tryz.prog 24 #[.pointer (some ⟨N + 4, 0, none⟩)] w fun e w' => e = .returned (.slice none 0 0) ∧ Only [] w w' :=
  (blocksR N rb ob n w h1 h2 (hu.only hS.1 (by simp))).mono fun _ _ ⟨h, k⟩ => ⟨h, k ▸ Only.refl _ _⟩

theorem nextRo (c : Int) (N rb ob n : Nat) (w : World) (h1 : 1 ≤ n) (h2 : n ≤ 24) (hs : RSp w N rb ob n) :
    Calls Tryz.prog 72 #[.pointer (some ⟨N + 4, 0, none⟩), .int .i64 c, .int .i64 0] w fun e w' => e = .returned (.int .i64 (-1)) ∧ Only [] w w' :=
  (nextR c N rb ob n w h1 h2 hs).mono fun _ _ ⟨h, k⟩ => ⟨h, k ▸ Only.refl _ _⟩

set_option maxHeartbeats 4000000 in
theorem dumpR (N rb ob n : Nat) (w : World) (h1 : 1 ≤ n) (h2 : n ≤ 24) (hs : RSp w N rb ob n) :
    Calls Tryz.prog 32 #[.pointer (some ⟨N + 4, 0, none⟩)] w (DumpPost n w) := by
  obtain ⟨i3, hi3, hz3, hs3, hb3⟩ := info_parts Tryz.info3
  obtain ⟨c0, c1, c2, c3, c4⟩ := hs.cells
  have hN := hs.sp.lt
  have HS := Lib.hid hs
  have HN24 := Lib.hid (show N + 4 < w.heap.size by omega)
  clear hs c2
  go_enter Tryz.func32, Tryz.ntmps32
  go_wp2_with fail
  have bB : Blk (w.alloc (.cells (dumpC (.slice none 0 0) (.slice none 0 0) (fun _ => 0)) 70)) w.heap.size (dumpC (.slice none 0 0) (.slice none 0 0) (fun _ => 0)) 70 := Blk.new _ _ rfl
  have ou : Only [] w (w.alloc (.cells (dumpC (.slice none 0 0) (.slice none 0 0) (fun _ => 0)) 70)) := (Only.refl _ _).alloc _
  dsimp only [dumpC] at bB ou
  generalize w.alloc (.cells _ 70) = u at bB ou ⊢
  have e0 := ou.cell c0 (by simp)
  have e1 := ou.cell c1 (by simp)
  have e3 := ou.cell c3 (by simp)
  have e4 := ou.cell c4 (by simp)
  have OU := Lib.hid ou
  have BB := Lib.hid bB
  have hsu := HS.out.only ou (by simp)
  have SU := Lib.hid hsu
  clear c0 c1 c3 c4 ou bB HS hsu
  have hwu : w.heap.size < u.heap.size := BB.out.lt
  have HWU := Lib.hid hwu
  clear hwu
  go_cut [3] (Built n w u)
  case first =>
    have S0 : Only [] u u.drew ∧ u.drew.cell? ⟨N + 4, 0, none⟩ = some (.slice (some ⟨rb, 0, none⟩) (n * 64) (n * 64)) ∧ u.drew.cell? ⟨N + 4, 1, none⟩ = some (.pointer (some ⟨N + 1, 0, none⟩)) ∧ u.drew.cell? ⟨N + 4, 3, none⟩ = some (.int .i64 0) ∧ u.drew.cell? ⟨N + 1, 0, none⟩ = some (.slice (some ⟨N, 0, none⟩) n n) := ⟨(Only.refl _ _).drew, e0, e1, e3, e4⟩
    go_region_held3 (fun w' => Only [] u w' ∧ w'.cell? ⟨N + 4, 0, none⟩ = some (.slice (some ⟨rb, 0, none⟩) (n * 64) (n * 64)) ∧ w'.cell? ⟨N + 4, 1, none⟩ = some (.pointer (some ⟨N + 1, 0, none⟩)) ∧ w'.cell? ⟨N + 4, 3, none⟩ = some (.int .i64 0) ∧ w'.cell? ⟨N + 1, 0, none⟩ = some (.slice (some ⟨N, 0, none⟩) n n))
      (first
        | with_reducible exact keepE ⟨Only.refl _ _, e0, e1, e3, e4⟩ (dump12 ((OW.out.trans OP.out).trans OB.out) ZB.out)
        | with_reducible exact S0
        | with_reducible exact keepE ⟨Only.refl _ _, e0, e1, e3, e4⟩ OW.out
        | with_reducible exact keepE ⟨Only.refl _ _, e0, e1, e3, e4⟩ (OW.out.trans OP.out)
        | with_reducible exact keepE ⟨Only.refl _ _, e0, e1, e3, e4⟩ ((OW.out.trans OP.out).trans OB.out)
        | with_reducible exact keepE S0 ((Only.refl _ _).alloc _)
        | with_reducible exact keepE ⟨Only.refl _ _, e0, e1, e3, e4⟩ (OW.out.alloc _)
        | with_reducible exact keepE ⟨Only.refl _ _, e0, e1, e3, e4⟩ ((OW.out.trans OP.out).alloc _)
        | with_reducible exact keepE ⟨Only.refl _ _, e0, e1, e3, e4⟩ (((OW.out.trans OP.out).trans OB.out).alloc _))
      (first
        | (refine step_words h1 h2 SU.out.wd (by assumption) (by rfl) _ _ (by rfl) (by rfl) (by rfl) ?_; intro gw cw ww ha; have AW := Lib.hid ha;
           (first
             | (have hb : Blk ww u.heap.size (dumpC (.slice none 0 0) (.slice none 0 0) (fun _ => 0)) 70 := (Blk.new (w := u.drew) _ _ rfl).only ha.only (by simp [Value.ownBlock]); have HB := Lib.hid hb; have ZB := Lib.hid (Nat.le_refl u.heap.size); clear hb; have ow : Only [] u ww := (((Only.refl _ _).drew).alloc _).trans ha.only; have OW := Lib.hid ow; clear ow)
             | (have ow : Only [] u ww := ((Only.refl _ _).drew).trans ha.only; have OW := Lib.hid ow; clear ow));
           clear ha)
        | (refine step_pages h1 h2 SU.out.pg (by assumption) (by rfl) _ _ (by rfl) (by rfl) (by rfl) ?_; intro gp cp wp ha; have AP := Lib.hid ha;
           (first
             | (have hb : Blk wp ww.heap.size (dumpC (.slice none 0 0) (.slice none 0 0) (fun _ => 0)) 70 := (Blk.new _ _ rfl).only ha.only (by simp [Value.ownBlock]); have HB := Lib.hid hb; have ZB := Lib.hid OW.out.size; clear hb; have op : Only [] ww wp := ((Only.refl _ _).alloc _).trans ha.only; have OP := Lib.hid op; clear op)
             | (have hb := HB.out.only ha.only (by simp [Value.ownBlock]); clear HB; have HB := Lib.hid hb; clear hb; have op : Only [] ww wp := ha.only; have OP := Lib.hid op; clear op)
             | (have op : Only [] ww wp := ha.only; have OP := Lib.hid op; clear op));
           clear ha)
        | (go_at_call 24; refine (callBlocksR h1 h2 SU.out (by assumption)).mono ?_; rintro e wb ⟨rfl, ho⟩;
           (first
             | (have hb : Blk wb wp.heap.size (dumpC (.slice none 0 0) (.slice none 0 0) (fun _ => 0)) 70 := (Blk.new _ _ rfl).only ho (by simp); have k0 := hb.cell 0; have l0 := hb.free 0; have k1 := hb.cell 1; have l1 := hb.free 1; have k2 := hb.cell 2; have l2 := hb.free 2; have k3 := hb.cell 3; have l3 := hb.free 3; have k4 := hb.cell 4; have l4 := hb.free 4; have k5 := hb.cell 5; have l5 := hb.free 5; have k6 := hb.cell 6; have l6 := hb.free 6; have k7 := hb.cell 7; have l7 := hb.free 7; have k8 := hb.cell 8; have l8 := hb.free 8; have k9 := hb.cell 9; have l9 := hb.free 9; have k10 := hb.cell 10; have l10 := hb.free 10; have k11 := hb.cell 11; have l11 := hb.free 11; simp only [List.getElem?_toArray, List.getElem?_cons_zero, List.getElem?_cons_succ] at k0 k1 k2 k3 k4 k5 k6 k7 k8 k9 k10 k11; have HB := Lib.hid hb; have ZB := Lib.hid (Nat.le_trans OW.out.size OP.out.size); clear hb; have ob : Only [] wp wb := ((Only.refl _ _).alloc _).trans ho; have OB := Lib.hid ob; clear ob)
             | (have hb := HB.out.only ho (by simp); have k0 := hb.cell 0; have l0 := hb.free 0; have k1 := hb.cell 1; have l1 := hb.free 1; have k2 := hb.cell 2; have l2 := hb.free 2; have k3 := hb.cell 3; have l3 := hb.free 3; have k4 := hb.cell 4; have l4 := hb.free 4; have k5 := hb.cell 5; have l5 := hb.free 5; have k6 := hb.cell 6; have l6 := hb.free 6; have k7 := hb.cell 7; have l7 := hb.free 7; have k8 := hb.cell 8; have l8 := hb.free 8; have k9 := hb.cell 9; have l9 := hb.free 9; have k10 := hb.cell 10; have l10 := hb.free 10; have k11 := hb.cell 11; have l11 := hb.free 11; simp only [List.getElem?_toArray, List.getElem?_cons_zero, List.getElem?_cons_succ] at k0 k1 k2 k3 k4 k5 k6 k7 k8 k9 k10 k11; clear HB; have HB := Lib.hid hb; clear hb; have ob : Only [] wp wb := ho; have OB := Lib.hid ob; clear ob)
             | (have ob : Only [] wp wb := ho; have OB := Lib.hid ob; clear ob));
           clear ho))
    all_goals
      go_wp2_with fail
      go_meet
      first
        | with_reducible refine built_set HWU.out AW.out AP.out ?_ ?_ OW.out OP.out OB.out ZB.out HB.out rfl rfl
        | with_reducible refine built_new HWU.out AW.out AP.out ?_ ?_ OW.out OP.out OB.out
      all_goals (have hsz := OW.out.size; first | exact Nat.le_refl _ | exact hsz | (simp <;> omega))
  case rest =>
  obtain ⟨B, gw, cw, gp, cp, rfl, hwB, hB, n1, n2, o1⟩ := hcut
  have oX := OU.out.trans o1
  have hsx := SU.out.only o1 (by simp)
  have lB := hB.lt
  have gwB := n1.row.ne hB (by decide)
  have gpB := n2.row.ne hB (by decide)
  have HB0 := Lib.hid hB
  have HWB := Lib.hid hwB
  have N1 := Lib.hid n1
  have N2 := Lib.hid n2
  have OX := Lib.hid oX
  have OR := Lib.hid o1
  have Q0 := Lib.hid (Only.refl [B] wc)
  have SX := Lib.hid hsx
  have HBN := Lib.hid (show N + 5 ≤ B by have := HN24.out; have := HWB.out; omega)
  have bA := BB.out.only o1 (by simp)
  have BA := Lib.hid bA
  clear bA
  clear hB hwB n1 n2 oX o1 hsx BB
  go_wp2_with fail
  refine wp_loop_rounds 9 ?_
  rw [rounds_succ]
  have z0 := nextRo 0 N rb ob n wc h1 h2 (SX.out.only Q0.out (by have := HBN.out; intro x hx; simp at hx; omega))
  have Y0 := Lib.hid z0
  clear z0
  have b0 := HB0.out
  go_wp2_with (go_at_call 72; refine Y0.out.mono ?_; rintro e y0 ⟨rfl, ho⟩; (have q0 := (HB0.out.only ho (by simp)); have f0 := q0.free 3; have g0 := q0.cell 3; simp at g0; have QH0 := Lib.hid q0; have OH0 := Lib.hid ho; clear q0 ho))
  clear b0 f0 g0
  have q := (QH0.out.setCell_same 3 (.int .i64 (-1)))
  have o := (Q0.out.trans (OH0.out.nilMono)).setCell (a := ⟨B, 3, none⟩) (by simp) (.int .i64 (-1))
  simp at q
  generalize y0.setCell ⟨B, 3, none⟩ (.int .i64 (-1)) = x0 at q o ⊢
  have HB1 := Lib.hid q
  have Q1 := Lib.hid o
  clear q o QH0 OH0 HB0 Y0 Q0
  rw [rounds_succ]
  have z1 := nextRo 1 N rb ob n x0 h1 h2 (SX.out.only Q1.out (by have := HBN.out; intro x hx; simp at hx; omega))
  have Y1 := Lib.hid z1
  clear z1
  have b1 := HB1.out
  go_wp2_with (go_at_call 72; refine Y1.out.mono ?_; rintro e y1 ⟨rfl, ho⟩; (have q1 := (HB1.out.only ho (by simp)); have f1 := q1.free 4; have g1 := q1.cell 4; simp at g1; have QH1 := Lib.hid q1; have OH1 := Lib.hid ho; clear q1 ho))
  clear b1 f1 g1
  have q := (QH1.out.setCell_same 4 (.int .i64 (-1)))
  have o := (Q1.out.trans (OH1.out.nilMono)).setCell (a := ⟨B, 4, none⟩) (by simp) (.int .i64 (-1))
  simp at q
  generalize y1.setCell ⟨B, 4, none⟩ (.int .i64 (-1)) = x1 at q o ⊢
  have HB2 := Lib.hid q
  have Q2 := Lib.hid o
  clear q o QH1 OH1 HB1 Y1 Q1
  rw [rounds_succ]
  have z2 := nextRo 2 N rb ob n x1 h1 h2 (SX.out.only Q2.out (by have := HBN.out; intro x hx; simp at hx; omega))
  have Y2 := Lib.hid z2
  clear z2
  have b2 := HB2.out
  go_wp2_with (go_at_call 72; refine Y2.out.mono ?_; rintro e y2 ⟨rfl, ho⟩; (have q2 := (HB2.out.only ho (by simp)); have f2 := q2.free 5; have g2 := q2.cell 5; simp at g2; have QH2 := Lib.hid q2; have OH2 := Lib.hid ho; clear q2 ho))
  clear b2 f2 g2
  have q := (QH2.out.setCell_same 5 (.int .i64 (-1)))
  have o := (Q2.out.trans (OH2.out.nilMono)).setCell (a := ⟨B, 5, none⟩) (by simp) (.int .i64 (-1))
  simp at q
  generalize y2.setCell ⟨B, 5, none⟩ (.int .i64 (-1)) = x2 at q o ⊢
  have HB3 := Lib.hid q
  have Q3 := Lib.hid o
  clear q o QH2 OH2 HB2 Y2 Q2
  rw [rounds_succ]
  have z3 := nextRo 3 N rb ob n x2 h1 h2 (SX.out.only Q3.out (by have := HBN.out; intro x hx; simp at hx; omega))
  have Y3 := Lib.hid z3
  clear z3
  have b3 := HB3.out
  go_wp2_with (go_at_call 72; refine Y3.out.mono ?_; rintro e y3 ⟨rfl, ho⟩; (have q3 := (HB3.out.only ho (by simp)); have f3 := q3.free 6; have g3 := q3.cell 6; simp at g3; have QH3 := Lib.hid q3; have OH3 := Lib.hid ho; clear q3 ho))
  clear b3 f3 g3
  have q := (QH3.out.setCell_same 6 (.int .i64 (-1)))
  have o := (Q3.out.trans (OH3.out.nilMono)).setCell (a := ⟨B, 6, none⟩) (by simp) (.int .i64 (-1))
  simp at q
  generalize y3.setCell ⟨B, 6, none⟩ (.int .i64 (-1)) = x3 at q o ⊢
  have HB4 := Lib.hid q
  have Q4 := Lib.hid o
  clear q o QH3 OH3 HB3 Y3 Q3
  rw [rounds_succ]
  have z4 := nextRo 4 N rb ob n x3 h1 h2 (SX.out.only Q4.out (by have := HBN.out; intro x hx; simp at hx; omega))
  have Y4 := Lib.hid z4
  clear z4
  have b4 := HB4.out
  go_wp2_with (go_at_call 72; refine Y4.out.mono ?_; rintro e y4 ⟨rfl, ho⟩; (have q4 := (HB4.out.only ho (by simp)); have f4 := q4.free 7; have g4 := q4.cell 7; simp at g4; have QH4 := Lib.hid q4; have OH4 := Lib.hid ho; clear q4 ho))
  clear b4 f4 g4
  have q := (QH4.out.setCell_same 7 (.int .i64 (-1)))
  have o := (Q4.out.trans (OH4.out.nilMono)).setCell (a := ⟨B, 7, none⟩) (by simp) (.int .i64 (-1))
  simp at q
  generalize y4.setCell ⟨B, 7, none⟩ (.int .i64 (-1)) = x4 at q o ⊢
  have HB5 := Lib.hid q
  have Q5 := Lib.hid o
  clear q o QH4 OH4 HB4 Y4 Q4
  rw [rounds_succ]
  have z5 := nextRo 5 N rb ob n x4 h1 h2 (SX.out.only Q5.out (by have := HBN.out; intro x hx; simp at hx; omega))
  have Y5 := Lib.hid z5
  clear z5
  have b5 := HB5.out
  go_wp2_with (go_at_call 72; refine Y5.out.mono ?_; rintro e y5 ⟨rfl, ho⟩; (have q5 := (HB5.out.only ho (by simp)); have f5 := q5.free 8; have g5 := q5.cell 8; simp at g5; have QH5 := Lib.hid q5; have OH5 := Lib.hid ho; clear q5 ho))
  clear b5 f5 g5
  have q := (QH5.out.setCell_same 8 (.int .i64 (-1)))
  have o := (Q5.out.trans (OH5.out.nilMono)).setCell (a := ⟨B, 8, none⟩) (by simp) (.int .i64 (-1))
  simp at q
  generalize y5.setCell ⟨B, 8, none⟩ (.int .i64 (-1)) = x5 at q o ⊢
  have HB6 := Lib.hid q
  have Q6 := Lib.hid o
  clear q o QH5 OH5 HB5 Y5 Q5
  rw [rounds_succ]
  have z6 := nextRo 6 N rb ob n x5 h1 h2 (SX.out.only Q6.out (by have := HBN.out; intro x hx; simp at hx; omega))
  have Y6 := Lib.hid z6
  clear z6
  have b6 := HB6.out
  go_wp2_with (go_at_call 72; refine Y6.out.mono ?_; rintro e y6 ⟨rfl, ho⟩; (have q6 := (HB6.out.only ho (by simp)); have f6 := q6.free 9; have g6 := q6.cell 9; simp at g6; have QH6 := Lib.hid q6; have OH6 := Lib.hid ho; clear q6 ho))
  clear b6 f6 g6
  have q := (QH6.out.setCell_same 9 (.int .i64 (-1)))
  have o := (Q6.out.trans (OH6.out.nilMono)).setCell (a := ⟨B, 9, none⟩) (by simp) (.int .i64 (-1))
  simp at q
  generalize y6.setCell ⟨B, 9, none⟩ (.int .i64 (-1)) = x6 at q o ⊢
  have HB7 := Lib.hid q
  have Q7 := Lib.hid o
  clear q o QH6 OH6 HB6 Y6 Q6
  rw [rounds_succ]
  have z7 := nextRo 7 N rb ob n x6 h1 h2 (SX.out.only Q7.out (by have := HBN.out; intro x hx; simp at hx; omega))
  have Y7 := Lib.hid z7
  clear z7
  have b7 := HB7.out
  go_wp2_with (go_at_call 72; refine Y7.out.mono ?_; rintro e y7 ⟨rfl, ho⟩; (have q7 := (HB7.out.only ho (by simp)); have f7 := q7.free 10; have g7 := q7.cell 10; simp at g7; have QH7 := Lib.hid q7; have OH7 := Lib.hid ho; clear q7 ho))
  clear b7 f7 g7
  have q := (QH7.out.setCell_same 10 (.int .i64 (-1)))
  have o := (Q7.out.trans (OH7.out.nilMono)).setCell (a := ⟨B, 10, none⟩) (by simp) (.int .i64 (-1))
  simp at q
  generalize y7.setCell ⟨B, 10, none⟩ (.int .i64 (-1)) = x7 at q o ⊢
  have HB8 := Lib.hid q
  have Q8 := Lib.hid o
  clear q o QH7 OH7 HB7 Y7 Q7
  rw [rounds_succ]
  have ba := BA.out.only Q8.out (by have := HWB.out; simp; omega)
  have k0 := HB8.out.cell 0
  have a0 := ba.cell 0
  have f0 := ba.free 0
  have k1 := HB8.out.cell 1
  have a1 := ba.cell 1
  have f1 := ba.free 1
  have k2 := HB8.out.cell 2
  have a2 := ba.cell 2
  have f2 := ba.free 2
  have k3 := HB8.out.cell 3
  have a3 := ba.cell 3
  have f3 := ba.free 3
  have k4 := HB8.out.cell 4
  have a4 := ba.cell 4
  have f4 := ba.free 4
  have k5 := HB8.out.cell 5
  have a5 := ba.cell 5
  have f5 := ba.free 5
  have k6 := HB8.out.cell 6
  have a6 := ba.cell 6
  have f6 := ba.free 6
  have k7 := HB8.out.cell 7
  have a7 := ba.cell 7
  have f7 := ba.free 7
  have k8 := HB8.out.cell 8
  have a8 := ba.cell 8
  have f8 := ba.free 8
  have k9 := HB8.out.cell 9
  have a9 := ba.cell 9
  have f9 := ba.free 9
  have k10 := HB8.out.cell 10
  have a10 := ba.cell 10
  have f10 := ba.free 10
  have k11 := HB8.out.cell 11
  have a11 := ba.cell 11
  have f11 := ba.free 11
  simp only [List.getElem?_toArray, List.getElem?_cons_zero, List.getElem?_cons_succ] at k0 a0 k1 a1 k2 a2 k3 a3 k4 a4 k5 a5 k6 a6 k7 a7 k8 a8 k9 a9 k10 a10 k11 a11
  have BA8 := Lib.hid ba
  clear ba
  go_wp2_with fail
  have ba := BA8.out
  obtain ⟨z, hz, bz, oz⟩ := set12 (w := x7) (B := w.heap.size) (x0 := .slice (some ⟨gw, 0, none⟩) (n * 64) cw) (x1 := .slice (some ⟨gp, 0, none⟩) n cp) (x2 := .slice none 0 0) (x3 := .int .i64 (-1)) (x4 := .int .i64 (-1)) (x5 := .int .i64 (-1)) (x6 := .int .i64 (-1)) (x7 := .int .i64 (-1)) (x8 := .int .i64 (-1)) (x9 := .int .i64 (-1)) (x10 := .int .i64 (-1)) (x11 := .int .i64 0) ba
  rw [hz]
  have m0 := bz.cell 0
  have m1 := bz.cell 1
  have m2 := bz.cell 2
  have m3 := bz.cell 3
  have m4 := bz.cell 4
  have m5 := bz.cell 5
  have m6 := bz.cell 6
  have m7 := bz.cell 7
  have m8 := bz.cell 8
  have m9 := bz.cell 9
  have m10 := bz.cell 10
  have m11 := bz.cell 11
  simp only [List.getElem?_toArray, List.getElem?_cons_zero, List.getElem?_cons_succ] at m0 m1 m2 m3 m4 m5 m6 m7 m8 m9 m10 m11
  refine bodyPost_ret (v := .agg (dumpC (.slice (some ⟨gw, 0, none⟩) (n * 64) cw) (.slice (some ⟨gp, 0, none⟩) n cp) (fun _ => -1))) (by simp [results, Tryz.results32, go_sem, m0, m1, m2, m3, m4, m5, m6, m7, m8, m9, m10, m11]) rfl ?_
  exact dump_fin HWU.out N1.out N2.out gwB gpB OU.out OR.out HWB.out Q8.out oz
end Go.Proofs.YtkkkfaifkmmhpaaGreatDoor
