/- An empty space: Dump. -/
import Derived.Test.YtkkkfaifkmmhpaaGreatDoorQ
namespace Go.Proofs.YtkkkfaifkmmhpaaGreatDoor
open Go.RowKit
set_option maxRecDepth 100000

/-- The cells of a dump. -/
abbrev dumpC (v1 v2 : Value) (h : Nat → Int) : Array Value :=
  #[v1, v2, .slice none 0 0, .int .i64 (h 0), .int .i64 (h 1), .int .i64 (h 2), .int .i64 (h 3), .int .i64 (h 4), .int .i64 (h 5), .int .i64 (h 6), .int .i64 (h 7), .int .i64 0]

/-- What a dump of nothing is. -/
def DumpPost (n : Nat) (w : World) (e : Ending) (w' : World) : Prop :=
  ∃ gw cw gp cp, e = .returned (.agg (dumpC (.slice (some ⟨gw, 0, none⟩) (n * 64) cw) (.slice (some ⟨gp, 0, none⟩) n cp) (fun _ => -1))) ∧
    NewRow w w' 3 1 (.slice (some ⟨gw, 0, none⟩) (n * 64) cw) (n * 64) ∧ NewRow w w' 139 3 (.slice (some ⟨gp, 0, none⟩) n cp) n ∧ Only [] w w'

theorem Row.ne {w : World} {te t : TypeId} {sz B g l cp : Nat} {el : Nat → Value} {len : Nat} {c : Array Value} (h : Row w te sz el (.slice (some ⟨g, 0, none⟩) l cp) len) (hb : Blk w B c t) (ht : t ≠ te) : g ≠ B := by
  rintro rfl
  rcases h with ⟨h, _⟩ | ⟨g', cap, cur, h, hg, _⟩
  · simp at h
  · simp at h
    obtain ⟨rfl, _⟩ := h
    unfold Blk at hb
    rw [hb] at hg
    simp at hg
    exact ht hg.2

theorem dump_fin {n gw cw gp cp B : Nat} {w u wc x z : World} (hwu : w.heap.size < u.heap.size) (n1 : NewRow u wc 3 1 (.slice (some ⟨gw, 0, none⟩) (n * 64) cw) (n * 64)) (n2 : NewRow u wc 139 3 (.slice (some ⟨gp, 0, none⟩) n cp) n)
    (h1 : gw ≠ B) (h2 : gp ≠ B) (ou : Only [] w u) (o1 : Only [] u wc) (hB : w.heap.size < B) (q : Only [B] wc x) (oz : Only [w.heap.size] x z) :
    DumpPost n w (.returned (.agg (dumpC (.slice (some ⟨gw, 0, none⟩) (n * 64) cw) (.slice (some ⟨gp, 0, none⟩) n cp) (fun _ => -1)))) z := by
  have hw := n1.new gw rfl
  have hp := n2.new gp rfl
  refine ⟨_, _, _, _, rfl, ⟨(n1.row.only q ?_).only oz ?_, ?_, n1.some⟩, ⟨(n2.row.only q ?_).only oz ?_, ?_, n2.some⟩, ?_⟩
  · intro b hb; simp [Value.ownBlock] at hb; subst hb; simpa using h1
  · intro b hb; simp [Value.ownBlock] at hb; subst hb; simp; omega
  · intro b hb; simp [Value.ownBlock] at hb; omega
  · intro b hb; simp [Value.ownBlock] at hb; subst hb; simpa using h2
  · intro b hb; simp [Value.ownBlock] at hb; subst hb; simp; omega
  · intro b hb; simp [Value.ownBlock] at hb; omega
  · have o := ou.trans o1
    have s1 := o.size
    have s2 := q.size
    exact ⟨oz.os.trans (q.os.trans o.os), oz.tape.trans (q.tape.trans o.tape), oz.output.trans (q.output.trans o.output), by have := oz.size; omega,
      fun k hk _ => (oz.block k (by omega) (by simp; omega)).trans ((q.block k (by omega) (by simp; omega)).trans (o.block k hk (by simp)))⟩

theorem Only.cell {S : List Nat} {w w' : World} (ho : Only S w w') {a : Addr} {v : Value} (h : w.cell? a = some v) (hS : a.block ∉ S) : w'.cell? a = some v := by
  rw [World.cell?_of_block (ho.block _ (World.block_lt_of_cell? w a h) hS)]; exact h

theorem keepD {u x w1 : World} {a1 a2 a3 : Addr} {v1 v2 v3 : Value} (h : Only [] u x ∧ x.cell? a1 = some v1 ∧ x.cell? a2 = some v2 ∧ x.cell? a3 = some v3) (ho : Only [] x w1) :
    Only [] u w1 ∧ w1.cell? a1 = some v1 ∧ w1.cell? a2 = some v2 ∧ w1.cell? a3 = some v3 :=
  ⟨h.1.trans ho, ho.cell h.2.1 (by simp), ho.cell h.2.2.1 (by simp), ho.cell h.2.2.2 (by simp)⟩

theorem step_words {ops : Array Oper} {o : Oper} {a : Act} {w u : World} {K : Act → World → Prop} {Q : Exit → Act → World → Prop} {E R : Prop} {n b : Nat} (h1 : 1 ≤ n) (h2 : n ≤ 24)
    (hu : Blk u b (zWords (n * 64)) 3) (hS : Only [] u w ∧ R) (hgd : o.guard = none) (s x : Operand)
    (ho : o.op = .call { callee := .builtin .append, args := #[s, x], argTypes := #[27, 27] }) (hs : a.eval s = .slice none 0 0) (hx : a.eval x = .slice (some ⟨b, 0, none⟩) (n * 64) (n * 64))
    (h : ∀ g cap w', Appended w w' 3 1 el0 (.slice none 0 0) (.slice (some ⟨g, 0, none⟩) (n * 64) cap) (n * 64) → K (a.put o.dst (.slice (some ⟨g, 0, none⟩) (n * 64) cap)) w') :
    if Region.wanted o (yielded ops a.tmps) = true then Oper.wp Tryz.prog o a w K Q else E := by
  obtain ⟨i3, hi3, hz3, hs3, hb3⟩ := info_parts Tryz.info3
  refine step_append_row _ hgd s x 27 ho 3 i3 (.int .i64 0) 1 8 Tryz.underlying27 hi3 hz3 hs3 hb3 rfl (by decide) el0 (fun _ => rfl) (.slice none 0 0) 0 hs (Row.nil _ _ _ _) ⟨b, 0, none⟩ (n * 64) (n * 64) hx (by omega) ?_ (by simp [maxLen]; omega) (by omega) ?_
  · refine Blk.srcZ (sz := 1) (t := 3) ?_ (by decide)
    rw [Nat.mul_one]
    exact hu.only hS.1 (by simp)
  · simpa using h

theorem step_pages {ops : Array Oper} {o : Oper} {a : Act} {w u : World} {K : Act → World → Prop} {Q : Exit → Act → World → Prop} {E R : Prop} {n b : Nat} (h1 : 1 ≤ n) (h2 : n ≤ 24)
    (hu : Blk u b (zPages n) 139) (hS : Only [] u w ∧ R) (hgd : o.guard = none) (s x : Operand)
    (ho : o.op = .call { callee := .builtin .append, args := #[s, x], argTypes := #[67, 67] }) (hs : a.eval s = .slice none 0 0) (hx : a.eval x = .slice (some ⟨b, 0, none⟩) n n)
    (h : ∀ g cap w', Appended w w' 139 3 el0 (.slice none 0 0) (.slice (some ⟨g, 0, none⟩) n cap) n → K (a.put o.dst (.slice (some ⟨g, 0, none⟩) n cap)) w') :
    if Region.wanted o (yielded ops a.tmps) = true then Oper.wp Tryz.prog o a w K Q else E := by
  obtain ⟨i, hi, hz, hs', hb⟩ := info_parts Tryz.info139
  refine step_append_row _ hgd s x 67 ho 139 i (.agg #[.int .i64 0, .int .i64 0, .int .i64 0]) 3 24 Tryz.underlying67 hi hz hs' hb rfl (by decide) el0 (fun _ => rfl) (.slice none 0 0) 0 hs (Row.nil _ _ _ _) ⟨b, 0, none⟩ n n hx (by omega) ?_ (by simp [maxLen]; omega) (by omega) ?_
  · exact Blk.srcZ (sz := 3) (hu.only hS.1 (by simp)) (by decide)
  · simpa using h

theorem callAll {N n : Nat} {u w : World} {R : Prop} (h1 : 1 ≤ n) (h2 : n ≤ 24) (hu : Sp u N n) (hS : Only [] u w ∧ R) :
    Calls Tryz.prog 79 #[.pointer (some ⟨N + 1, 0, none⟩)] w fun e w' => ∃ g cap, e = .returned (.slice (some ⟨g, 0, none⟩) n cap) ∧ Appended w w' 139 3 el0 (.slice none 0 0) (.slice (some ⟨g, 0, none⟩) n cap) n :=
  tableAll N n w h1 h2 (hu.only hS.1 (by simp)).pg (by rw [(hu.only hS.1 (by simp)).tb.cell]; rfl)

theorem callBlocks {N n : Nat} {u w : World} {R : Prop} (h1 : 1 ≤ n) (h2 : n ≤ 24) (hu : Sp u N n) (hS : Only [] u w ∧ R) :
    Calls Tryz.prog 23 #[.pointer (some ⟨N + 5, 0, none⟩)] w fun e w' => e = .returned (.slice none 0 0) ∧ Only [] w w' :=
  blocksS N n w h1 h2 (hu.only hS.1 (by simp))

theorem store_dump {w : World} {B : Nat} (v1 v2 : Value) (hb : Blk w B (dumpC (.slice none 0 0) (.slice none 0 0) (fun _ => 0)) 70) (h1 : v1.oneCell' = true) (h2 : v2.oneCell' = true) :
    (storeCells ⟨B, 0, none⟩ [v1, v2, .slice none 0 0, .int .i64 0, .int .i64 0, .int .i64 0, .int .i64 0, .int .i64 0, .int .i64 0, .int .i64 0, .int .i64 0, .int .i64 0] 0).run Tryz.prog w =
      .ok () (w.setRow B (dumpC v1 v2 (fun _ => 0))) := by
  have := run_storeCells_from (P := Tryz.prog) B 70 (dumpC v1 v2 (fun _ => 0)).toList 0 _ w hb (by simp) (by intro v hv; simp at hv; rcases hv with rfl | rfl | rfl | rfl <;> first | assumption | rfl)
  simpa using this

theorem Row.setRow {w : World} {te t : TypeId} {sz B : Nat} {el : Nat → Value} {v : Value} {len : Nat} {c : Array Value} (h : Row w te sz el v len) (hb : Blk w B c t) (ht : t ≠ te) (cs : Array Value) : Row (w.setRow B cs) te sz el v len := by
  refine h.same fun b hv => setRow_other w B b cs fun e => ?_
  rcases h with ⟨rfl, _⟩ | ⟨g, cap, cur, rfl, hg, _⟩
  · simp [Value.ownBlock] at hv
  · simp [Value.ownBlock] at hv
    subst hv
    subst e
    unfold Blk at hb
    rw [hb] at hg
    simp at hg
    exact ht hg.2

theorem Only.rowNew {S : List Nat} {w w' : World} (h : Only S w w') {B : Nat} (hB : w.heap.size ≤ B) (cs : Array Value) : Only S w (w'.setRow B cs) :=
  ⟨h.os, h.tape, h.output, by simpa using h.size, fun k hk hS => by
    rw [setRow_other _ _ _ _ (by omega)]; exact h.block k hk hS⟩

theorem dump12 {u x : World} {B : Nat} {v1 v2 : Value} (h : Only [] u x) (hB : u.heap.size ≤ B) : Only [] u ((((((((((((x.setCell ⟨B, 0, none⟩ v1).setCell ⟨B, 1, none⟩ v2).setCell ⟨B, 2, none⟩ (.slice none 0 0)).setCell ⟨B, 3, none⟩ (.int .i64 0)).setCell ⟨B, 4, none⟩ (.int .i64 0)).setCell ⟨B, 5, none⟩ (.int .i64 0)).setCell ⟨B, 6, none⟩ (.int .i64 0)).setCell ⟨B, 7, none⟩ (.int .i64 0)).setCell ⟨B, 8, none⟩ (.int .i64 0)).setCell ⟨B, 9, none⟩ (.int .i64 0)).setCell ⟨B, 10, none⟩ (.int .i64 0)).setCell ⟨B, 11, none⟩ (.int .i64 0)) :=
  ((((((((((((h.setNew (a := ⟨B, 0, none⟩) hB _).setNew (a := ⟨B, 1, none⟩) hB _).setNew (a := ⟨B, 2, none⟩) hB _).setNew (a := ⟨B, 3, none⟩) hB _).setNew (a := ⟨B, 4, none⟩) hB _).setNew (a := ⟨B, 5, none⟩) hB _).setNew (a := ⟨B, 6, none⟩) hB _).setNew (a := ⟨B, 7, none⟩) hB _).setNew (a := ⟨B, 8, none⟩) hB _).setNew (a := ⟨B, 9, none⟩) hB _).setNew (a := ⟨B, 10, none⟩) hB _).setNew (a := ⟨B, 11, none⟩) hB _)

theorem Row.setOther {w : World} {te t : TypeId} {sz B i : Nat} {el : Nat → Value} {v x : Value} {len : Nat} {c : Array Value} (h : Row w te sz el v len) (hb : Blk w B c t) (ht : t ≠ te) : Row (w.setCell ⟨B, i, none⟩ x) te sz el v len := by
  refine h.same fun b hv => heap_setCell_other fun e => ?_
  rcases h with ⟨rfl, _⟩ | ⟨g, cap, cur, rfl, hg, _⟩
  · simp [Value.ownBlock] at hv
  · simp [Value.ownBlock] at hv
    subst hv
    simp at e
    subst e
    unfold Blk at hb
    rw [hb] at hg
    simp at hg
    exact ht hg.2

theorem row12 {w : World} {te t : TypeId} {sz B : Nat} {el : Nat → Value} {v v1 v2 : Value} {len : Nat} {c : Array Value} (h : Row w te sz el v len) (hb : Blk w B c t) (ht : t ≠ te) : Row ((((((((((((w.setCell ⟨B, 0, none⟩ v1).setCell ⟨B, 1, none⟩ v2).setCell ⟨B, 2, none⟩ (.slice none 0 0)).setCell ⟨B, 3, none⟩ (.int .i64 0)).setCell ⟨B, 4, none⟩ (.int .i64 0)).setCell ⟨B, 5, none⟩ (.int .i64 0)).setCell ⟨B, 6, none⟩ (.int .i64 0)).setCell ⟨B, 7, none⟩ (.int .i64 0)).setCell ⟨B, 8, none⟩ (.int .i64 0)).setCell ⟨B, 9, none⟩ (.int .i64 0)).setCell ⟨B, 10, none⟩ (.int .i64 0)).setCell ⟨B, 11, none⟩ (.int .i64 0)) te sz el v len := by
  have h0 := Row.setOther (i := 0) (x := v1) h hb ht
  have b0 := Blk.setCell_same hb 0 v1
  have h1 := Row.setOther (i := 1) (x := v2) h0 b0 ht
  have b1 := Blk.setCell_same b0 1 v2
  have h2 := Row.setOther (i := 2) (x := (.slice none 0 0)) h1 b1 ht
  have b2 := Blk.setCell_same b1 2 (.slice none 0 0)
  have h3 := Row.setOther (i := 3) (x := (.int .i64 0)) h2 b2 ht
  have b3 := Blk.setCell_same b2 3 (.int .i64 0)
  have h4 := Row.setOther (i := 4) (x := (.int .i64 0)) h3 b3 ht
  have b4 := Blk.setCell_same b3 4 (.int .i64 0)
  have h5 := Row.setOther (i := 5) (x := (.int .i64 0)) h4 b4 ht
  have b5 := Blk.setCell_same b4 5 (.int .i64 0)
  have h6 := Row.setOther (i := 6) (x := (.int .i64 0)) h5 b5 ht
  have b6 := Blk.setCell_same b5 6 (.int .i64 0)
  have h7 := Row.setOther (i := 7) (x := (.int .i64 0)) h6 b6 ht
  have b7 := Blk.setCell_same b6 7 (.int .i64 0)
  have h8 := Row.setOther (i := 8) (x := (.int .i64 0)) h7 b7 ht
  have b8 := Blk.setCell_same b7 8 (.int .i64 0)
  have h9 := Row.setOther (i := 9) (x := (.int .i64 0)) h8 b8 ht
  have b9 := Blk.setCell_same b8 9 (.int .i64 0)
  have h10 := Row.setOther (i := 10) (x := (.int .i64 0)) h9 b9 ht
  have b10 := Blk.setCell_same b9 10 (.int .i64 0)
  have h11 := Row.setOther (i := 11) (x := (.int .i64 0)) h10 b10 ht
  have b11 := Blk.setCell_same b10 11 (.int .i64 0)
  exact h11

theorem blk12 {w : World} {B : Nat} {v1 v2 : Value} (hb : Blk w B (dumpC (.slice none 0 0) (.slice none 0 0) (fun _ => 0)) 70) : Blk ((((((((((((w.setCell ⟨B, 0, none⟩ v1).setCell ⟨B, 1, none⟩ v2).setCell ⟨B, 2, none⟩ (.slice none 0 0)).setCell ⟨B, 3, none⟩ (.int .i64 0)).setCell ⟨B, 4, none⟩ (.int .i64 0)).setCell ⟨B, 5, none⟩ (.int .i64 0)).setCell ⟨B, 6, none⟩ (.int .i64 0)).setCell ⟨B, 7, none⟩ (.int .i64 0)).setCell ⟨B, 8, none⟩ (.int .i64 0)).setCell ⟨B, 9, none⟩ (.int .i64 0)).setCell ⟨B, 10, none⟩ (.int .i64 0)).setCell ⟨B, 11, none⟩ (.int .i64 0)) B (dumpC v1 v2 (fun _ => 0)) 70 := by
  have := ((((((((((((hb.setCell_same 0 v1).setCell_same 1 v2).setCell_same 2 (.slice none 0 0)).setCell_same 3 (.int .i64 0)).setCell_same 4 (.int .i64 0)).setCell_same 5 (.int .i64 0)).setCell_same 6 (.int .i64 0)).setCell_same 7 (.int .i64 0)).setCell_same 8 (.int .i64 0)).setCell_same 9 (.int .i64 0)).setCell_same 10 (.int .i64 0)).setCell_same 11 (.int .i64 0))
  simpa using this

/-- What stands behind the statement that builds a dump. -/
def Built (n : Nat) (w u : World) (c : Value) (wx : World) : Prop :=
  ∃ B gw cw gp cp, c = .pointer (some ⟨B, 0, none⟩) ∧ w.heap.size < B ∧ Blk wx B (dumpC (.slice (some ⟨gw, 0, none⟩) (n * 64) cw) (.slice (some ⟨gp, 0, none⟩) n cp) (fun _ => 0)) 70 ∧
    NewRow u wx 3 1 (.slice (some ⟨gw, 0, none⟩) (n * 64) cw) (n * 64) ∧ NewRow u wx 139 3 (.slice (some ⟨gp, 0, none⟩) n cp) n ∧ Only [] u wx

theorem built_new {n gw cw gp cp : Nat} {w u ww wp wb xw xp : World} (hw : w.heap.size < u.heap.size) (aw : Appended xw ww 3 1 el0 (.slice none 0 0) (.slice (some ⟨gw, 0, none⟩) (n * 64) cw) (n * 64))
    (ap : Appended xp wp 139 3 el0 (.slice none 0 0) (.slice (some ⟨gp, 0, none⟩) n cp) n) (hxw : u.heap.size ≤ xw.heap.size) (hxp : u.heap.size ≤ xp.heap.size) (ow : Only [] u ww) (op : Only [] ww wp) (ob : Only [] wp wb) :
    Built n w u (.pointer (some ⟨wb.heap.size, 0, none⟩)) (wb.alloc (.cells (dumpC (.slice (some ⟨gw, 0, none⟩) (n * 64) cw) (.slice (some ⟨gp, 0, none⟩) n cp) (fun _ => 0)) 70)) := by
  have o := (ow.trans op).trans ob
  refine ⟨_, _, _, _, _, rfl, by have := o.size; omega, Blk.new _ _ rfl, ⟨aw.row.only ((op.trans ob).alloc _) (by simp), ?_, aw.some⟩, ⟨ap.row.only (ob.alloc _) (by simp), ?_, ap.some⟩, o.alloc _⟩
  · intro b hb
    rcases aw.loc with h | h
    · rw [h] at hb; simp [Value.ownBlock] at hb
    · rw [h] at hb; simp at hb; omega
  · intro b hb
    rcases ap.loc with h | h
    · rw [h] at hb; simp [Value.ownBlock] at hb
    · rw [h] at hb; simp at hb; omega

theorem built_set {n gw cw gp cp B : Nat} {w u ww wp wb xw xp : World} {v1 v2 : Value} (hw : w.heap.size < u.heap.size) (aw : Appended xw ww 3 1 el0 (.slice none 0 0) (.slice (some ⟨gw, 0, none⟩) (n * 64) cw) (n * 64))
    (ap : Appended xp wp 139 3 el0 (.slice none 0 0) (.slice (some ⟨gp, 0, none⟩) n cp) n) (hxw : u.heap.size ≤ xw.heap.size) (hxp : u.heap.size ≤ xp.heap.size) (ow : Only [] u ww) (op : Only [] ww wp) (ob : Only [] wp wb)
    (hB : u.heap.size ≤ B) (hb : Blk wb B (dumpC (.slice none 0 0) (.slice none 0 0) (fun _ => 0)) 70) (e1 : v1 = .slice (some ⟨gw, 0, none⟩) (n * 64) cw) (e2 : v2 = .slice (some ⟨gp, 0, none⟩) n cp) :
    Built n w u (.pointer (some ⟨B, 0, none⟩)) ((((((((((((wb.setCell ⟨B, 0, none⟩ v1).setCell ⟨B, 1, none⟩ v2).setCell ⟨B, 2, none⟩ (.slice none 0 0)).setCell ⟨B, 3, none⟩ (.int .i64 0)).setCell ⟨B, 4, none⟩ (.int .i64 0)).setCell ⟨B, 5, none⟩ (.int .i64 0)).setCell ⟨B, 6, none⟩ (.int .i64 0)).setCell ⟨B, 7, none⟩ (.int .i64 0)).setCell ⟨B, 8, none⟩ (.int .i64 0)).setCell ⟨B, 9, none⟩ (.int .i64 0)).setCell ⟨B, 10, none⟩ (.int .i64 0)).setCell ⟨B, 11, none⟩ (.int .i64 0)) := by
  subst e1
  subst e2
  have o := (ow.trans op).trans ob
  refine ⟨_, _, _, _, _, rfl, by omega, blk12 hb, ⟨row12 (aw.row.only (op.trans ob) (by simp)) hb (by decide), ?_, aw.some⟩, ⟨row12 (ap.row.only ob (by simp)) hb (by decide), ?_, ap.some⟩, dump12 o hB⟩
  · intro b hb
    rcases aw.loc with h | h
    · rw [h] at hb; simp [Value.ownBlock] at hb
    · rw [h] at hb; simp at hb; omega
  · intro b hb
    rcases ap.loc with h | h
    · rw [h] at hb; simp [Value.ownBlock] at hb
    · rw [h] at hb; simp at hb; omega

theorem blk12v {w : World} {B : Nat} {x0 x1 x2 x3 x4 x5 x6 x7 x8 x9 x10 x11 : Value} (hb : Blk w B (dumpC (.slice none 0 0) (.slice none 0 0) (fun _ => 0)) 70) : Blk ((((((((((((w.setCell ⟨B, 0, none⟩ x0).setCell ⟨B, 1, none⟩ x1).setCell ⟨B, 2, none⟩ x2).setCell ⟨B, 3, none⟩ x3).setCell ⟨B, 4, none⟩ x4).setCell ⟨B, 5, none⟩ x5).setCell ⟨B, 6, none⟩ x6).setCell ⟨B, 7, none⟩ x7).setCell ⟨B, 8, none⟩ x8).setCell ⟨B, 9, none⟩ x9).setCell ⟨B, 10, none⟩ x10).setCell ⟨B, 11, none⟩ x11) B #[x0, x1, x2, x3, x4, x5, x6, x7, x8, x9, x10, x11] 70 := by
  have := ((((((((((((hb.setCell_same 0 x0).setCell_same 1 x1).setCell_same 2 x2).setCell_same 3 x3).setCell_same 4 x4).setCell_same 5 x5).setCell_same 6 x6).setCell_same 7 x7).setCell_same 8 x8).setCell_same 9 x9).setCell_same 10 x10).setCell_same 11 x11)
  simpa using this
theorem only12v {w u : World} {B : Nat} {x0 x1 x2 x3 x4 x5 x6 x7 x8 x9 x10 x11 : Value} (h : Only [B] u w) : Only [B] u ((((((((((((w.setCell ⟨B, 0, none⟩ x0).setCell ⟨B, 1, none⟩ x1).setCell ⟨B, 2, none⟩ x2).setCell ⟨B, 3, none⟩ x3).setCell ⟨B, 4, none⟩ x4).setCell ⟨B, 5, none⟩ x5).setCell ⟨B, 6, none⟩ x6).setCell ⟨B, 7, none⟩ x7).setCell ⟨B, 8, none⟩ x8).setCell ⟨B, 9, none⟩ x9).setCell ⟨B, 10, none⟩ x10).setCell ⟨B, 11, none⟩ x11) :=
  ((((((((((((h.setCell (a := ⟨B, 0, none⟩) (by simp) _).setCell (a := ⟨B, 1, none⟩) (by simp) _).setCell (a := ⟨B, 2, none⟩) (by simp) _).setCell (a := ⟨B, 3, none⟩) (by simp) _).setCell (a := ⟨B, 4, none⟩) (by simp) _).setCell (a := ⟨B, 5, none⟩) (by simp) _).setCell (a := ⟨B, 6, none⟩) (by simp) _).setCell (a := ⟨B, 7, none⟩) (by simp) _).setCell (a := ⟨B, 8, none⟩) (by simp) _).setCell (a := ⟨B, 9, none⟩) (by simp) _).setCell (a := ⟨B, 10, none⟩) (by simp) _).setCell (a := ⟨B, 11, none⟩) (by simp) _)

theorem set12 {w : World} {B : Nat} {x0 x1 x2 x3 x4 x5 x6 x7 x8 x9 x10 x11 : Value} (hb : Blk w B (dumpC (.slice none 0 0) (.slice none 0 0) (fun _ => 0)) 70) :
    ∃ z, ((((((((((((w.setCell ⟨B, 0, none⟩ x0).setCell ⟨B, 1, none⟩ x1).setCell ⟨B, 2, none⟩ x2).setCell ⟨B, 3, none⟩ x3).setCell ⟨B, 4, none⟩ x4).setCell ⟨B, 5, none⟩ x5).setCell ⟨B, 6, none⟩ x6).setCell ⟨B, 7, none⟩ x7).setCell ⟨B, 8, none⟩ x8).setCell ⟨B, 9, none⟩ x9).setCell ⟨B, 10, none⟩ x10).setCell ⟨B, 11, none⟩ x11) = z ∧ Blk z B #[x0, x1, x2, x3, x4, x5, x6, x7, x8, x9, x10, x11] 70 ∧ Only [B] w z := ⟨_, rfl, blk12v hb, only12v (Only.refl _ _)⟩

set_option maxHeartbeats 4000000 in
theorem dumpS (N n : Nat) (w : World) (h1 : 1 ≤ n) (h2 : n ≤ 24) (hs : Sp w N n) :
    Calls Tryz.prog 31 #[.pointer (some ⟨N + 5, 0, none⟩)] w (DumpPost n w) := by
  obtain ⟨i3, hi3, hz3, hs3, hb3⟩ := info_parts Tryz.info3
  obtain ⟨c0, c1, c2, c3, c4, c5⟩ := hs.cells
  have hN := hs.sp.lt
  have HS := Lib.hid hs
  have C3 := Lib.hid c3
  have HN24 := Lib.hid (show N + 24 ≤ w.heap.size by have := (hs.fm 7 (by omega)).lt; omega)
  have HS0 := Lib.hid hs
  clear hs c3 c2 c5
  go_enter Tryz.func31, Tryz.ntmps31
  go_wp2_with fail
  have bB : Blk (w.alloc (.cells (dumpC (.slice none 0 0) (.slice none 0 0) (fun _ => 0)) 70)) w.heap.size (dumpC (.slice none 0 0) (.slice none 0 0) (fun _ => 0)) 70 := Blk.new _ _ rfl
  have ou : Only [] w (w.alloc (.cells (dumpC (.slice none 0 0) (.slice none 0 0) (fun _ => 0)) 70)) := (Only.refl _ _).alloc _
  dsimp only [dumpC] at bB ou
  generalize w.alloc (.cells _ 70) = u at bB ou ⊢
  have e0 := ou.cell c0 (by simp)
  have e1 := ou.cell c1 (by simp)
  have e4 := ou.cell c4 (by simp)
  have OU := Lib.hid ou
  have BB := Lib.hid bB
  have hsu := HS.out.only ou (by simp)
  have SU := Lib.hid hsu
  clear c0 c1 c4 ou bB HS hsu
  have hwu : w.heap.size < u.heap.size := BB.out.lt
  have HWU := Lib.hid hwu
  clear hwu
  go_cut [3] (Built n w u)
  case first =>
    have S0 : Only [] u u.drew ∧ u.drew.cell? ⟨N + 5, 0, none⟩ = some (.slice (some ⟨N + 2, 0, none⟩) (n * 64) (n * 64)) ∧ u.drew.cell? ⟨N + 5, 1, none⟩ = some (.pointer (some ⟨N + 1, 0, none⟩)) ∧ u.drew.cell? ⟨N + 5, 13, none⟩ = some (.int .i64 0) := ⟨(Only.refl _ _).drew, e0, e1, e4⟩
    go_region_held3 (fun w' => Only [] u w' ∧ w'.cell? ⟨N + 5, 0, none⟩ = some (.slice (some ⟨N + 2, 0, none⟩) (n * 64) (n * 64)) ∧ w'.cell? ⟨N + 5, 1, none⟩ = some (.pointer (some ⟨N + 1, 0, none⟩)) ∧ w'.cell? ⟨N + 5, 13, none⟩ = some (.int .i64 0))
      (first
        | with_reducible exact keepD ⟨Only.refl _ _, e0, e1, e4⟩ (dump12 ((OW.out.trans OP.out).trans OB.out) ZB.out)
        | with_reducible exact S0
        | with_reducible exact keepD ⟨Only.refl _ _, e0, e1, e4⟩ OW.out
        | with_reducible exact keepD ⟨Only.refl _ _, e0, e1, e4⟩ (OW.out.trans OP.out)
        | with_reducible exact keepD ⟨Only.refl _ _, e0, e1, e4⟩ ((OW.out.trans OP.out).trans OB.out)
        | with_reducible exact keepD S0 ((Only.refl _ _).alloc _)
        | with_reducible exact keepD ⟨Only.refl _ _, e0, e1, e4⟩ (OW.out.alloc _)
        | with_reducible exact keepD ⟨Only.refl _ _, e0, e1, e4⟩ ((OW.out.trans OP.out).alloc _)
        | with_reducible exact keepD ⟨Only.refl _ _, e0, e1, e4⟩ (((OW.out.trans OP.out).trans OB.out).alloc _))
      (first
        | (refine step_words h1 h2 SU.out.wd (by assumption) (by rfl) _ _ (by rfl) (by rfl) (by rfl) ?_; intro gw cw ww ha; have AW := Lib.hid ha;
           (first
             | (have hb : Blk ww u.heap.size (dumpC (.slice none 0 0) (.slice none 0 0) (fun _ => 0)) 70 := (Blk.new (w := u.drew) _ _ rfl).only ha.only (by simp [Value.ownBlock]); have HB := Lib.hid hb; have ZB := Lib.hid (Nat.le_refl u.heap.size); clear hb; have ow : Only [] u ww := (((Only.refl _ _).drew).alloc _).trans ha.only; have OW := Lib.hid ow; clear ow)
             | (have ow : Only [] u ww := ((Only.refl _ _).drew).trans ha.only; have OW := Lib.hid ow; clear ow));
           clear ha)
        | (go_at_call 79; refine (callAll h1 h2 SU.out (by assumption)).mono ?_; rintro e wp ⟨gp, cp, rfl, ha⟩; have AP := Lib.hid ha;
           (first
             | (have hb : Blk wp ww.heap.size (dumpC (.slice none 0 0) (.slice none 0 0) (fun _ => 0)) 70 := (Blk.new _ _ rfl).only ha.only (by simp [Value.ownBlock]); have HB := Lib.hid hb; have ZB := Lib.hid OW.out.size; clear hb; have op : Only [] ww wp := ((Only.refl _ _).alloc _).trans ha.only; have OP := Lib.hid op; clear op)
             | (have hb := HB.out.only ha.only (by simp [Value.ownBlock]); clear HB; have HB := Lib.hid hb; clear hb; have op : Only [] ww wp := ha.only; have OP := Lib.hid op; clear op)
             | (have op : Only [] ww wp := ha.only; have OP := Lib.hid op; clear op));
           clear ha)
        | (go_at_call 23; refine (callBlocks h1 h2 SU.out (by assumption)).mono ?_; rintro e wb ⟨rfl, ho⟩;
           (first
             | (have hb : Blk wb wp.heap.size (dumpC (.slice none 0 0) (.slice none 0 0) (fun _ => 0)) 70 := (Blk.new _ _ rfl).only ho (by simp); have k0 := hb.cell 0; have l0 := hb.free 0; have k1 := hb.cell 1; have l1 := hb.free 1; have k2 := hb.cell 2; have l2 := hb.free 2; have k3 := hb.cell 3; have l3 := hb.free 3; have k4 := hb.cell 4; have l4 := hb.free 4; have k5 := hb.cell 5; have l5 := hb.free 5; have k6 := hb.cell 6; have l6 := hb.free 6; have k7 := hb.cell 7; have l7 := hb.free 7; have k8 := hb.cell 8; have l8 := hb.free 8; have k9 := hb.cell 9; have l9 := hb.free 9; have k10 := hb.cell 10; have l10 := hb.free 10; have k11 := hb.cell 11; have l11 := hb.free 11; simp only [List.getElem?_toArray, List.getElem?_cons_zero, List.getElem?_cons_succ] at k0 k1 k2 k3 k4 k5 k6 k7 k8 k9 k10 k11; have HB := Lib.hid hb; have ZB := Lib.hid (Nat.le_trans OW.out.size OP.out.size); clear hb; have ob : Only [] wp wb := ((Only.refl _ _).alloc _).trans ho; have OB := Lib.hid ob; clear ob)
             | (have hb := HB.out.only ho (by simp); have k0 := hb.cell 0; have l0 := hb.free 0; have k1 := hb.cell 1; have l1 := hb.free 1; have k2 := hb.cell 2; have l2 := hb.free 2; have k3 := hb.cell 3; have l3 := hb.free 3; have k4 := hb.cell 4; have l4 := hb.free 4; have k5 := hb.cell 5; have l5 := hb.free 5; have k6 := hb.cell 6; have l6 := hb.free 6; have k7 := hb.cell 7; have l7 := hb.free 7; have k8 := hb.cell 8; have l8 := hb.free 8; have k9 := hb.cell 9; have l9 := hb.free 9; have k10 := hb.cell 10; have l10 := hb.free 10; have k11 := hb.cell 11; have l11 := hb.free 11; simp only [List.getElem?_toArray, List.getElem?_cons_zero, List.getElem?_cons_succ] at k0 k1 k2 k3 k4 k5 k6 k7 k8 k9 k10 k11; clear HB; have HB := Lib.hid hb; clear hb; have ob : Only [] wp wb := ho; have OB := Lib.hid ob; clear ob)
             | (have ob : Only [] wp wb := ho; have OB := Lib.hid ob; clear ob));
           clear ho))
    all_goals
      go_wp2_with fail
      go_meet
      first
        | with_reducible refine built_set HWU.out AW.out AP.out ?_ ?_ OW.out OP.out OB.out ZB.out HB.out rfl rfl
        | with_reducible refine built_new HWU.out AW.out AP.out ?_ ?_ OW.out OP.out OB.out
      all_goals (have hsz := OW.out.size; first | exact Nat.le_refl _ | exact hsz | (simp <;> omega))
  case rest =>
  obtain ⟨B, gw, cw, gp, cp, rfl, hwB, hB, n1, n2, o1⟩ := hcut
  have oX := OU.out.trans o1
  have hsx := SU.out.only o1 (by simp)
  obtain ⟨_, _, _, d3, _, _⟩ := hsx.cells
  have lB := hB.lt
  have d0 : wc.cell? ⟨N + 5, 3, none⟩ = some (.pointer (some ⟨N + 9, 0, none⟩)) := d3 0 (by omega)
  have d1 : wc.cell? ⟨N + 5, 4, none⟩ = some (.pointer (some ⟨N + 11, 0, none⟩)) := d3 1 (by omega)
  have d2 : wc.cell? ⟨N + 5, 5, none⟩ = some (.pointer (some ⟨N + 13, 0, none⟩)) := d3 2 (by omega)
  have d4 : wc.cell? ⟨N + 5, 6, none⟩ = some (.pointer (some ⟨N + 15, 0, none⟩)) := d3 3 (by omega)
  have d5 : wc.cell? ⟨N + 5, 7, none⟩ = some (.pointer (some ⟨N + 17, 0, none⟩)) := d3 4 (by omega)
  have d6 : wc.cell? ⟨N + 5, 8, none⟩ = some (.pointer (some ⟨N + 19, 0, none⟩)) := d3 5 (by omega)
  have d7 : wc.cell? ⟨N + 5, 9, none⟩ = some (.pointer (some ⟨N + 21, 0, none⟩)) := d3 6 (by omega)
  have d8 : wc.cell? ⟨N + 5, 10, none⟩ = some (.pointer (some ⟨N + 23, 0, none⟩)) := d3 7 (by omega)
  have i0 : ∀ w : World, (Instr.index 78 (.agg #[.pointer (some ⟨N + 9, 0, none⟩), .pointer (some ⟨N + 11, 0, none⟩), .pointer (some ⟨N + 13, 0, none⟩), .pointer (some ⟨N + 15, 0, none⟩), .pointer (some ⟨N + 17, 0, none⟩), .pointer (some ⟨N + 19, 0, none⟩), .pointer (some ⟨N + 21, 0, none⟩), .pointer (some ⟨N + 23, 0, none⟩)]) (.int .i64 0)).run Tryz.prog w = .ok (.pointer (some ⟨N + 9, 0, none⟩)) w := fun w => by kernel_rfl
  have i1 : ∀ w : World, (Instr.index 78 (.agg #[.pointer (some ⟨N + 9, 0, none⟩), .pointer (some ⟨N + 11, 0, none⟩), .pointer (some ⟨N + 13, 0, none⟩), .pointer (some ⟨N + 15, 0, none⟩), .pointer (some ⟨N + 17, 0, none⟩), .pointer (some ⟨N + 19, 0, none⟩), .pointer (some ⟨N + 21, 0, none⟩), .pointer (some ⟨N + 23, 0, none⟩)]) (.int .i64 1)).run Tryz.prog w = .ok (.pointer (some ⟨N + 11, 0, none⟩)) w := fun w => by kernel_rfl
  have i2 : ∀ w : World, (Instr.index 78 (.agg #[.pointer (some ⟨N + 9, 0, none⟩), .pointer (some ⟨N + 11, 0, none⟩), .pointer (some ⟨N + 13, 0, none⟩), .pointer (some ⟨N + 15, 0, none⟩), .pointer (some ⟨N + 17, 0, none⟩), .pointer (some ⟨N + 19, 0, none⟩), .pointer (some ⟨N + 21, 0, none⟩), .pointer (some ⟨N + 23, 0, none⟩)]) (.int .i64 2)).run Tryz.prog w = .ok (.pointer (some ⟨N + 13, 0, none⟩)) w := fun w => by kernel_rfl
  have i3 : ∀ w : World, (Instr.index 78 (.agg #[.pointer (some ⟨N + 9, 0, none⟩), .pointer (some ⟨N + 11, 0, none⟩), .pointer (some ⟨N + 13, 0, none⟩), .pointer (some ⟨N + 15, 0, none⟩), .pointer (some ⟨N + 17, 0, none⟩), .pointer (some ⟨N + 19, 0, none⟩), .pointer (some ⟨N + 21, 0, none⟩), .pointer (some ⟨N + 23, 0, none⟩)]) (.int .i64 3)).run Tryz.prog w = .ok (.pointer (some ⟨N + 15, 0, none⟩)) w := fun w => by kernel_rfl
  have i4 : ∀ w : World, (Instr.index 78 (.agg #[.pointer (some ⟨N + 9, 0, none⟩), .pointer (some ⟨N + 11, 0, none⟩), .pointer (some ⟨N + 13, 0, none⟩), .pointer (some ⟨N + 15, 0, none⟩), .pointer (some ⟨N + 17, 0, none⟩), .pointer (some ⟨N + 19, 0, none⟩), .pointer (some ⟨N + 21, 0, none⟩), .pointer (some ⟨N + 23, 0, none⟩)]) (.int .i64 4)).run Tryz.prog w = .ok (.pointer (some ⟨N + 17, 0, none⟩)) w := fun w => by kernel_rfl
  have i5 : ∀ w : World, (Instr.index 78 (.agg #[.pointer (some ⟨N + 9, 0, none⟩), .pointer (some ⟨N + 11, 0, none⟩), .pointer (some ⟨N + 13, 0, none⟩), .pointer (some ⟨N + 15, 0, none⟩), .pointer (some ⟨N + 17, 0, none⟩), .pointer (some ⟨N + 19, 0, none⟩), .pointer (some ⟨N + 21, 0, none⟩), .pointer (some ⟨N + 23, 0, none⟩)]) (.int .i64 5)).run Tryz.prog w = .ok (.pointer (some ⟨N + 19, 0, none⟩)) w := fun w => by kernel_rfl
  have i6 : ∀ w : World, (Instr.index 78 (.agg #[.pointer (some ⟨N + 9, 0, none⟩), .pointer (some ⟨N + 11, 0, none⟩), .pointer (some ⟨N + 13, 0, none⟩), .pointer (some ⟨N + 15, 0, none⟩), .pointer (some ⟨N + 17, 0, none⟩), .pointer (some ⟨N + 19, 0, none⟩), .pointer (some ⟨N + 21, 0, none⟩), .pointer (some ⟨N + 23, 0, none⟩)]) (.int .i64 6)).run Tryz.prog w = .ok (.pointer (some ⟨N + 21, 0, none⟩)) w := fun w => by kernel_rfl
  have i7 : ∀ w : World, (Instr.index 78 (.agg #[.pointer (some ⟨N + 9, 0, none⟩), .pointer (some ⟨N + 11, 0, none⟩), .pointer (some ⟨N + 13, 0, none⟩), .pointer (some ⟨N + 15, 0, none⟩), .pointer (some ⟨N + 17, 0, none⟩), .pointer (some ⟨N + 19, 0, none⟩), .pointer (some ⟨N + 21, 0, none⟩), .pointer (some ⟨N + 23, 0, none⟩)]) (.int .i64 7)).run Tryz.prog w = .ok (.pointer (some ⟨N + 23, 0, none⟩)) w := fun w => by kernel_rfl
  have gwB := n1.row.ne hB (by decide)
  have gpB := n2.row.ne hB (by decide)
  have HB0 := Lib.hid hB
  have HWB := Lib.hid hwB
  have N1 := Lib.hid n1
  have N2 := Lib.hid n2
  have OX := Lib.hid oX
  have OR := Lib.hid o1
  have Q0 := Lib.hid (Only.refl [B] wc)
  have SX := Lib.hid hsx
  have HBN := Lib.hid (show N + 24 < B by have := HN24.out; have := HWB.out; omega)
  have bA := BB.out.only o1 (by simp)
  have BA := Lib.hid bA
  clear bA
  clear hB hwB n1 n2 oX o1 hsx d3 BB HS0
  go_wp2_with fail
  refine wp_loop_rounds 9 ?_
  rw [rounds_succ]
  have z0 := nextZ (N + 9) (N + 8) n wc h1 h2 ((SX.out.only Q0.out (by have := HBN.out; intro x hx; simp at hx; omega)).zf 0 (by omega))
  have Y0 := Lib.hid z0
  clear z0
  have b0 := HB0.out
  go_wp2_with (go_at_call 80; refine Y0.out.mono ?_; rintro e y0 ⟨rfl, ho⟩; (have q0 := (HB0.out.only ho (by simp)); have f0 := q0.free 3; have g0 := q0.cell 3; simp at g0; have QH0 := Lib.hid q0; have OH0 := Lib.hid ho; clear q0 ho))
  clear b0 f0 g0
  have q := (QH0.out.setCell_same 3 (.int .i64 (-1)))
  have o := (Q0.out.trans (OH0.out.nilMono)).setCell (a := ⟨B, 3, none⟩) (by simp) (.int .i64 (-1))
  simp at q
  generalize y0.setCell ⟨B, 3, none⟩ (.int .i64 (-1)) = x0 at q o ⊢
  have HB1 := Lib.hid q
  have Q1 := Lib.hid o
  clear q o QH0 OH0 HB0 Y0 Q0
  rw [rounds_succ]
  have z1 := nextZ (N + 11) (N + 10) n x0 h1 h2 ((SX.out.only Q1.out (by have := HBN.out; intro x hx; simp at hx; omega)).zf 1 (by omega))
  have Y1 := Lib.hid z1
  clear z1
  have b1 := HB1.out
  go_wp2_with (go_at_call 80; refine Y1.out.mono ?_; rintro e y1 ⟨rfl, ho⟩; (have q1 := (HB1.out.only ho (by simp)); have f1 := q1.free 4; have g1 := q1.cell 4; simp at g1; have QH1 := Lib.hid q1; have OH1 := Lib.hid ho; clear q1 ho))
  clear b1 f1 g1
  have q := (QH1.out.setCell_same 4 (.int .i64 (-1)))
  have o := (Q1.out.trans (OH1.out.nilMono)).setCell (a := ⟨B, 4, none⟩) (by simp) (.int .i64 (-1))
  simp at q
  generalize y1.setCell ⟨B, 4, none⟩ (.int .i64 (-1)) = x1 at q o ⊢
  have HB2 := Lib.hid q
  have Q2 := Lib.hid o
  clear q o QH1 OH1 HB1 Y1 Q1
  rw [rounds_succ]
  have z2 := nextZ (N + 13) (N + 12) n x1 h1 h2 ((SX.out.only Q2.out (by have := HBN.out; intro x hx; simp at hx; omega)).zf 2 (by omega))
  have Y2 := Lib.hid z2
  clear z2
  have b2 := HB2.out
  go_wp2_with (go_at_call 80; refine Y2.out.mono ?_; rintro e y2 ⟨rfl, ho⟩; (have q2 := (HB2.out.only ho (by simp)); have f2 := q2.free 5; have g2 := q2.cell 5; simp at g2; have QH2 := Lib.hid q2; have OH2 := Lib.hid ho; clear q2 ho))
  clear b2 f2 g2
  have q := (QH2.out.setCell_same 5 (.int .i64 (-1)))
  have o := (Q2.out.trans (OH2.out.nilMono)).setCell (a := ⟨B, 5, none⟩) (by simp) (.int .i64 (-1))
  simp at q
  generalize y2.setCell ⟨B, 5, none⟩ (.int .i64 (-1)) = x2 at q o ⊢
  have HB3 := Lib.hid q
  have Q3 := Lib.hid o
  clear q o QH2 OH2 HB2 Y2 Q2
  rw [rounds_succ]
  have z3 := nextZ (N + 15) (N + 14) n x2 h1 h2 ((SX.out.only Q3.out (by have := HBN.out; intro x hx; simp at hx; omega)).zf 3 (by omega))
  have Y3 := Lib.hid z3
  clear z3
  have b3 := HB3.out
  go_wp2_with (go_at_call 80; refine Y3.out.mono ?_; rintro e y3 ⟨rfl, ho⟩; (have q3 := (HB3.out.only ho (by simp)); have f3 := q3.free 6; have g3 := q3.cell 6; simp at g3; have QH3 := Lib.hid q3; have OH3 := Lib.hid ho; clear q3 ho))
  clear b3 f3 g3
  have q := (QH3.out.setCell_same 6 (.int .i64 (-1)))
  have o := (Q3.out.trans (OH3.out.nilMono)).setCell (a := ⟨B, 6, none⟩) (by simp) (.int .i64 (-1))
  simp at q
  generalize y3.setCell ⟨B, 6, none⟩ (.int .i64 (-1)) = x3 at q o ⊢
  have HB4 := Lib.hid q
  have Q4 := Lib.hid o
  clear q o QH3 OH3 HB3 Y3 Q3
  rw [rounds_succ]
  have z4 := nextZ (N + 17) (N + 16) n x3 h1 h2 ((SX.out.only Q4.out (by have := HBN.out; intro x hx; simp at hx; omega)).zf 4 (by omega))
  have Y4 := Lib.hid z4
  clear z4
  have b4 := HB4.out
  go_wp2_with (go_at_call 80; refine Y4.out.mono ?_; rintro e y4 ⟨rfl, ho⟩; (have q4 := (HB4.out.only ho (by simp)); have f4 := q4.free 7; have g4 := q4.cell 7; simp at g4; have QH4 := Lib.hid q4; have OH4 := Lib.hid ho; clear q4 ho))
  clear b4 f4 g4
  have q := (QH4.out.setCell_same 7 (.int .i64 (-1)))
  have o := (Q4.out.trans (OH4.out.nilMono)).setCell (a := ⟨B, 7, none⟩) (by simp) (.int .i64 (-1))
  simp at q
  generalize y4.setCell ⟨B, 7, none⟩ (.int .i64 (-1)) = x4 at q o ⊢
  have HB5 := Lib.hid q
  have Q5 := Lib.hid o
  clear q o QH4 OH4 HB4 Y4 Q4
  rw [rounds_succ]
  have z5 := nextZ (N + 19) (N + 18) n x4 h1 h2 ((SX.out.only Q5.out (by have := HBN.out; intro x hx; simp at hx; omega)).zf 5 (by omega))
  have Y5 := Lib.hid z5
  clear z5
  have b5 := HB5.out
  go_wp2_with (go_at_call 80; refine Y5.out.mono ?_; rintro e y5 ⟨rfl, ho⟩; (have q5 := (HB5.out.only ho (by simp)); have f5 := q5.free 8; have g5 := q5.cell 8; simp at g5; have QH5 := Lib.hid q5; have OH5 := Lib.hid ho; clear q5 ho))
  clear b5 f5 g5
  have q := (QH5.out.setCell_same 8 (.int .i64 (-1)))
  have o := (Q5.out.trans (OH5.out.nilMono)).setCell (a := ⟨B, 8, none⟩) (by simp) (.int .i64 (-1))
  simp at q
  generalize y5.setCell ⟨B, 8, none⟩ (.int .i64 (-1)) = x5 at q o ⊢
  have HB6 := Lib.hid q
  have Q6 := Lib.hid o
  clear q o QH5 OH5 HB5 Y5 Q5
  rw [rounds_succ]
  have z6 := nextZ (N + 21) (N + 20) n x5 h1 h2 ((SX.out.only Q6.out (by have := HBN.out; intro x hx; simp at hx; omega)).zf 6 (by omega))
  have Y6 := Lib.hid z6
  clear z6
  have b6 := HB6.out
  go_wp2_with (go_at_call 80; refine Y6.out.mono ?_; rintro e y6 ⟨rfl, ho⟩; (have q6 := (HB6.out.only ho (by simp)); have f6 := q6.free 9; have g6 := q6.cell 9; simp at g6; have QH6 := Lib.hid q6; have OH6 := Lib.hid ho; clear q6 ho))
  clear b6 f6 g6
  have q := (QH6.out.setCell_same 9 (.int .i64 (-1)))
  have o := (Q6.out.trans (OH6.out.nilMono)).setCell (a := ⟨B, 9, none⟩) (by simp) (.int .i64 (-1))
  simp at q
  generalize y6.setCell ⟨B, 9, none⟩ (.int .i64 (-1)) = x6 at q o ⊢
  have HB7 := Lib.hid q
  have Q7 := Lib.hid o
  clear q o QH6 OH6 HB6 Y6 Q6
  rw [rounds_succ]
  have z7 := nextZ (N + 23) (N + 22) n x6 h1 h2 ((SX.out.only Q7.out (by have := HBN.out; intro x hx; simp at hx; omega)).zf 7 (by omega))
  have Y7 := Lib.hid z7
  clear z7
  have b7 := HB7.out
  go_wp2_with (go_at_call 80; refine Y7.out.mono ?_; rintro e y7 ⟨rfl, ho⟩; (have q7 := (HB7.out.only ho (by simp)); have f7 := q7.free 10; have g7 := q7.cell 10; simp at g7; have QH7 := Lib.hid q7; have OH7 := Lib.hid ho; clear q7 ho))
  clear b7 f7 g7
  have q := (QH7.out.setCell_same 10 (.int .i64 (-1)))
  have o := (Q7.out.trans (OH7.out.nilMono)).setCell (a := ⟨B, 10, none⟩) (by simp) (.int .i64 (-1))
  simp at q
  generalize y7.setCell ⟨B, 10, none⟩ (.int .i64 (-1)) = x7 at q o ⊢
  have HB8 := Lib.hid q
  have Q8 := Lib.hid o
  clear q o QH7 OH7 HB7 Y7 Q7
  rw [rounds_succ]
  have ba := BA.out.only Q8.out (by have := HWB.out; simp; omega)
  have k0 := HB8.out.cell 0
  have a0 := ba.cell 0
  have f0 := ba.free 0
  have k1 := HB8.out.cell 1
  have a1 := ba.cell 1
  have f1 := ba.free 1
  have k2 := HB8.out.cell 2
  have a2 := ba.cell 2
  have f2 := ba.free 2
  have k3 := HB8.out.cell 3
  have a3 := ba.cell 3
  have f3 := ba.free 3
  have k4 := HB8.out.cell 4
  have a4 := ba.cell 4
  have f4 := ba.free 4
  have k5 := HB8.out.cell 5
  have a5 := ba.cell 5
  have f5 := ba.free 5
  have k6 := HB8.out.cell 6
  have a6 := ba.cell 6
  have f6 := ba.free 6
  have k7 := HB8.out.cell 7
  have a7 := ba.cell 7
  have f7 := ba.free 7
  have k8 := HB8.out.cell 8
  have a8 := ba.cell 8
  have f8 := ba.free 8
  have k9 := HB8.out.cell 9
  have a9 := ba.cell 9
  have f9 := ba.free 9
  have k10 := HB8.out.cell 10
  have a10 := ba.cell 10
  have f10 := ba.free 10
  have k11 := HB8.out.cell 11
  have a11 := ba.cell 11
  have f11 := ba.free 11
  simp only [List.getElem?_toArray, List.getElem?_cons_zero, List.getElem?_cons_succ] at k0 a0 k1 a1 k2 a2 k3 a3 k4 a4 k5 a5 k6 a6 k7 a7 k8 a8 k9 a9 k10 a10 k11 a11
  have BA8 := Lib.hid ba
  clear ba d0 d1 d2 d4 d5 d6 d7 d8 i0 i1 i2 i3 i4 i5 i6 i7
  go_wp2_with fail
  have ba := BA8.out
  obtain ⟨z, hz, bz, oz⟩ := set12 (w := x7) (B := w.heap.size) (x0 := .slice (some ⟨gw, 0, none⟩) (n * 64) cw) (x1 := .slice (some ⟨gp, 0, none⟩) n cp) (x2 := .slice none 0 0) (x3 := .int .i64 (-1)) (x4 := .int .i64 (-1)) (x5 := .int .i64 (-1)) (x6 := .int .i64 (-1)) (x7 := .int .i64 (-1)) (x8 := .int .i64 (-1)) (x9 := .int .i64 (-1)) (x10 := .int .i64 (-1)) (x11 := .int .i64 0) ba
  rw [hz]
  have m0 := bz.cell 0
  have m1 := bz.cell 1
  have m2 := bz.cell 2
  have m3 := bz.cell 3
  have m4 := bz.cell 4
  have m5 := bz.cell 5
  have m6 := bz.cell 6
  have m7 := bz.cell 7
  have m8 := bz.cell 8
  have m9 := bz.cell 9
  have m10 := bz.cell 10
  have m11 := bz.cell 11
  simp only [List.getElem?_toArray, List.getElem?_cons_zero, List.getElem?_cons_succ] at m0 m1 m2 m3 m4 m5 m6 m7 m8 m9 m10 m11
  refine bodyPost_ret (v := .agg (dumpC (.slice (some ⟨gw, 0, none⟩) (n * 64) cw) (.slice (some ⟨gp, 0, none⟩) n cp) (fun _ => -1))) (by simp [results, Tryz.results31, go_sem, m0, m1, m2, m3, m4, m5, m6, m7, m8, m9, m10, m11]) rfl ?_
  exact dump_fin HWU.out N1.out N2.out gwB gpB OU.out OR.out HWB.out Q8.out oz
end Go.Proofs.YtkkkfaifkmmhpaaGreatDoor
