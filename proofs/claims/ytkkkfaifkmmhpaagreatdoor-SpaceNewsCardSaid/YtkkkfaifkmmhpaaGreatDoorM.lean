/- An empty space: space.Wrong, Blocks, Dump; Use. -/
import Derived.Test.YtkkkfaifkmmhpaaGreatDoorL
import Derived.RangeFuncCalls
import Derived.Shelf.Abstract
namespace Go.Proofs.YtkkkfaifkmmhpaaGreatDoor
open Go.RowKit
set_option maxRecDepth 100000

theorem Sp.only {w w' : World} {N n : Nat} {S : List Nat} (h : Sp w N n) (ho : Only S w w') (hS : ∀ x, x ∈ S → N + 24 ≤ x) : Sp w' N n := by
  have k : ∀ b, b < N + 24 → b ∉ S := fun b hb hm => by have := hS b hm; omega
  exact ⟨h.pg.only ho (k _ (by omega)), h.tb.only ho (k _ (by omega)), h.wd.only ho (k _ (by omega)), ho.at h.sh (k _ (by omega)), ho.at h.pl (k _ (by omega)),
    h.sp.only ho (k _ (by omega)), h.tr.only ho (k _ (by omega)), h.tm.only ho (k _ (by omega)), fun j hj => (h.fr j hj).only ho (k _ (by omega)), fun j hj => (h.fm j hj).only ho (k _ (by omega))⟩

theorem Sp.zt {w : World} {N n : Nat} (h : Sp w N n) : Zm w (N + 7) (N + 6) n := ⟨h.tm, h.tr⟩
theorem Sp.zf {w : World} {N n : Nat} (h : Sp w N n) (j : Nat) (hj : j < 8) : Zm w (N + 9 + 2 * j) (N + 8 + 2 * j) n := ⟨h.fm j hj, h.fr j hj⟩
theorem Sp.cells {w : World} {N n : Nat} (h : Sp w N n) : w.cell? ⟨N + 5, 0, none⟩ = some (.slice (some ⟨N + 2, 0, none⟩) (n * 64) (n * 64)) ∧ w.cell? ⟨N + 5, 1, none⟩ = some (.pointer (some ⟨N + 1, 0, none⟩)) ∧
    w.cell? ⟨N + 5, 2, none⟩ = some (.pointer (some ⟨N + 7, 0, none⟩)) ∧ (∀ j, j < 8 → w.cell? ⟨N + 5, 3 + j, none⟩ = some (.pointer (some ⟨N + 9 + 2 * j, 0, none⟩))) ∧
    w.cell? ⟨N + 5, 13, none⟩ = some (.int .i64 0) ∧ w.cell? ⟨N + 5, 14, none⟩ = some (.int .i64 0) := by
  refine ⟨by rw [h.sp.cell]; rfl, by rw [h.sp.cell]; rfl, by rw [h.sp.cell]; rfl, ?_, by rw [h.sp.cell]; rfl, by rw [h.sp.cell]; rfl⟩
  intro j hj
  rw [h.sp.cell]
  obtain rfl | rfl | rfl | rfl | rfl | rfl | rfl | rfl : j = 0 ∨ j = 1 ∨ j = 2 ∨ j = 3 ∨ j = 4 ∨ j = 5 ∨ j = 6 ∨ j = 7 := by omega
  all_goals rfl

/-- The marks that a function has piled up, all of them made since n0. -/
def MarksOk (n0 : Nat) (u : World) (ds : List Deferred) : Prop :=
  ∃ rs, ds = marks rs ∧ rs.Nodup ∧ ∀ r, r ∈ rs → n0 ≤ r ∧ u.heap[r]? = some (.deferred (some []))

theorem MarksOk.nil (n0 : Nat) (u : World) : MarksOk n0 u [] := ⟨[], rfl, List.nodup_nil, by simp⟩
theorem MarksOk.only {n0 : Nat} {u u' : World} {ds : List Deferred} {S : List Nat} (h : MarksOk n0 u ds) (ho : Only S u u') (hS : ∀ x, x ∈ S → x < n0) : MarksOk n0 u' ds := by
  obtain ⟨rs, h1, h2, h3⟩ := h
  refine ⟨rs, h1, h2, fun r hr => ⟨(h3 r hr).1, ?_⟩⟩
  have := (h3 r hr).2
  rw [ho.block r (lt_of_block this) (fun hm => by have := hS r hm; have := (h3 r hr).1; omega)]
  exact this
theorem MarksOk.cons {n0 : Nat} {u u' : World} {ds : List Deferred} {S : List Nat} (h : MarksOk n0 u ds) (ho : Only S u u') (hS : ∀ x, x ∈ S → x < n0) (hn : n0 ≤ u.heap.size)
    (hm : u'.heap[u.heap.size]? = some (.deferred (some []))) : MarksOk n0 u' ({ target := .collected u.heap.size, args := #[] } :: ds) := by
  obtain ⟨rs, h1, h2, h3⟩ := h.only ho hS
  obtain ⟨rs', h1', _, h3'⟩ := h
  refine ⟨u.heap.size :: rs, by rw [h1]; rfl, List.nodup_cons.2 ⟨fun hr => ?_, h2⟩, ?_⟩
  · have : rs = rs' := by
      have e : marks rs = marks rs' := by rw [← h1, ← h1']
      have := congrArg (List.map fun d : Deferred => match d.target with | .collected r => r | _ => 0) e
      simpa [marks, Function.comp_def] using this
    subst this
    have := lt_of_block (h3' _ hr).2
    omega
  · intro r hr
    rcases List.mem_cons.1 hr with rfl | hr
    · exact ⟨hn, hm⟩
    · exact h3 r hr

theorem leavesK_marksOk {P : Program} {fn : Func} {tmps : Array Value} {R : Ending → World → Prop} {w u : World} {ds : List Deferred} {v : Value} {S : List Nat}
    (hm : MarksOk w.heap.size u ds) (ho : Only S w u) (hv : ∀ w', Only S w w' → (results fn tmps).run P w' = .ok v w') (h : ∀ w', Only S w w' → R (.returned v) w') : LeavesK P fn tmps R ds u := by
  obtain ⟨rs, rfl, h2, h3⟩ := hm
  refine leavesK_of_marks rs u h2 (fun r hr => (h3 r hr).2) fun w' ho' => ?_
  have : Only S w w' := ⟨ho'.os.trans ho.os, ho'.tape.trans ho.tape, ho'.output.trans ho.output, Nat.le_trans ho.size ho'.size,
    fun k hk hS => (ho'.block k (Nat.lt_of_lt_of_le hk ho.size) (fun hm => by have := (h3 k hm).1; omega)).trans (ho.block k hk hS)⟩
  exact ⟨v, hv w' this, h w' this⟩

/-- A range over the members of an empty map: no round is come to. -/
theorem wp_range_map {g : Operand} {ps : Array Tmp} {assign body : Code} {Q : Exit → Act → World → Prop} {a : Act} {u : World} {bx mb rb n : Nat}
    (hg : a.eval g = .func (.func 115) #[] #[.pointer (some ⟨bx, 0, none⟩)]) (h1 : 1 ≤ n) (h2 : n ≤ 24) (hb : Blk u bx #[.pointer (some ⟨mb, 0, none⟩)] 77) (hz : Zm u mb rb n)
    (h : ∀ u', Only [] u u' → u'.heap[u.heap.size]? = some (.deferred (some [])) → Q .normal { a with defers := { target := .collected u.heap.size, args := #[] } :: a.defers } u') :
    (Code.rangeFunc g ps assign body).wp Tryz.prog Q a u := by
  refine wp_rangeFunc_none (gf := 115) hg (fun args w => enters_of Tryz.func115 (by kernel_rfl) rfl args w) ?_
  intro rec _ _
  have o : Only [] u ((u.alloc (.deferred (some []))).alloc (.loop rec)) := ((Only.refl _ _).alloc _).alloc _
  refine (mapAll1 _ bx mb rb n _ h1 h2 (hb.only o (by simp)) (hz.only o (by simp) (by simp))).mono ?_
  rintro e w' ⟨rfl, ho⟩
  have k0 : ((u.alloc (.deferred (some []))).alloc (.loop rec)).heap[u.heap.size]? = some (.deferred (some [])) := by
    rw [heap_alloc, if_neg (by simp), heap_alloc, if_pos rfl]
  have k1 : ((u.alloc (.deferred (some []))).alloc (.loop rec)).heap[u.heap.size + 1]? = some (.loop rec) := by
    rw [heap_alloc, if_pos (by simp)]
  have e0 := ho.block _ (lt_of_block k0) (by simp)
  have e1 := ho.block _ (lt_of_block k1) (by simp)
  refine ⟨⟨_, rfl⟩, e1.trans k1, h _ ⟨ho.os.trans o.os, ho.tape.trans o.tape, ho.output.trans o.output, ?_, ?_⟩ ?_⟩
  · have := (o.trans ho).size
    simpa using this
  · intro k hk _
    rw [World.putObj_heap_other (by omega)]
    exact (o.trans ho).block k hk (by simp)
  · rw [World.putObj_heap_other (by omega)]
    exact e0.trans k0

theorem Only.nilMono {S : List Nat} {w w' : World} (h : Only [] w w') : Only S w w' := h.mono (by simp)

set_option maxHeartbeats 4000000 in
theorem wrongS (N n : Nat) (w : World) (h1 : 1 ≤ n) (h2 : n ≤ 24) (hs : Sp w N n) :
    Calls Tryz.prog 26 #[.pointer (some ⟨N + 5, 0, none⟩)] w fun e w' => e = .returned (.int .i64 (-1)) ∧ Only [] w w' := by
  obtain ⟨c0, _, c2, c3, _, _⟩ := hs.cells
  have hN := hs.sp.lt
  have HS := Lib.hid hs
  have C3 := Lib.hid c3
  have HN := Lib.hid hN
  clear hs c3
  refine calls_of_wp_K Tryz.func26 rfl ?_
  simp only [Tryz.ntmps26, List.size_toArray, List.length_cons, List.length_nil, Nat.reduceAdd, Nat.reduceSub, Array.replicate_succ,
     Array.replicate_zero, List.push_toArray, List.append_toArray, List.nil_append, List.cons_append]
  go_wp2_with (go_at_call 70; refine (mapAll _ _).mono ?_; rintro e w1 ⟨rfl, hb, ho⟩; (have B1 := Lib.hid hb); (have O1 := Lib.hid ho); clear hb ho)
  have o1 : Only [] w w1 := ((((Only.refl _ _).alloc _).alloc _).trans O1.out)
  have b0 : Blk w1 w.heap.size #[.pointer (some ⟨N + 5, 0, none⟩)] 31 := ((Blk.new _ _ rfl).alloc _).only O1.out (by simp)
  have b1 : Blk w1 (w.heap.size + 1) #[.int .i64 ((n : Int) * 64)] 3 := by
    have : Blk ((w.alloc (.cells #[.pointer (some ⟨N + 5, 0, none⟩)] 31)).alloc (.cells #[.int .i64 ((n : Int) * 64)] 3)) (w.heap.size + 1) #[.int .i64 ((n : Int) * 64)] 3 := by
      have := Blk.new (w := w.alloc (.cells #[.pointer (some ⟨N + 5, 0, none⟩)] 31)) #[.int .i64 ((n : Int) * 64)] 3 rfl
      simpa using this
    exact this.only O1.out (by simp)
  refine wp_range_map (bx := w.heap.size + 1 + 1) (mb := N + 7) (rb := N + 6) (n := n) rfl h1 h2 (by simpa using B1.out) (HS.out.zt.only o1 (by simp) (by simp)) ?_
  intro u2 ho2 hm2
  have k2 := (MarksOk.nil w.heap.size w1).cons ho2 (by simp) o1.size hm2
  have o2 := o1.trans ho2
  have b0' := b0.only ho2 (by simp)
  have b1' := b1.only ho2 (by simp)
  clear b0 b1 ho2 hm2 o1
  have K2 := Lib.hid k2
  have O2 := Lib.hid o2
  have BX := Lib.hid b0'
  have X := Lib.hid b1'
  have x0 : u2.cell? ⟨w.heap.size, 0, none⟩ = some (.pointer (some ⟨N + 5, 0, none⟩)) := by rw [b0'.cell]; rfl
  have y3 := C3.out
  have hs2 := HS.out.only o2 (by simp)
  obtain ⟨_, _, _, d3, _, _⟩ := hs2.cells
  have d0 : u2.cell? ⟨N + 5, 3, none⟩ = some (.pointer (some ⟨N + 9, 0, none⟩)) := d3 0 (by omega)
  have d1 : u2.cell? ⟨N + 5, 4, none⟩ = some (.pointer (some ⟨N + 11, 0, none⟩)) := d3 1 (by omega)
  have d2 : u2.cell? ⟨N + 5, 5, none⟩ = some (.pointer (some ⟨N + 13, 0, none⟩)) := d3 2 (by omega)
  have d4 : u2.cell? ⟨N + 5, 6, none⟩ = some (.pointer (some ⟨N + 15, 0, none⟩)) := d3 3 (by omega)
  have d5 : u2.cell? ⟨N + 5, 7, none⟩ = some (.pointer (some ⟨N + 17, 0, none⟩)) := d3 4 (by omega)
  have d6 : u2.cell? ⟨N + 5, 8, none⟩ = some (.pointer (some ⟨N + 19, 0, none⟩)) := d3 5 (by omega)
  have d7 : u2.cell? ⟨N + 5, 9, none⟩ = some (.pointer (some ⟨N + 21, 0, none⟩)) := d3 6 (by omega)
  have d8 : u2.cell? ⟨N + 5, 10, none⟩ = some (.pointer (some ⟨N + 23, 0, none⟩)) := d3 7 (by omega)
  have i0 : ∀ w : World, (Instr.index 78 (.agg #[.pointer (some ⟨N + 9, 0, none⟩), .pointer (some ⟨N + 11, 0, none⟩), .pointer (some ⟨N + 13, 0, none⟩), .pointer (some ⟨N + 15, 0, none⟩), .pointer (some ⟨N + 17, 0, none⟩), .pointer (some ⟨N + 19, 0, none⟩), .pointer (some ⟨N + 21, 0, none⟩), .pointer (some ⟨N + 23, 0, none⟩)]) (.int .i64 0)).run Tryz.prog w = .ok (.pointer (some ⟨N + 9, 0, none⟩)) w := fun w => by kernel_rfl
  have i1 : ∀ w : World, (Instr.index 78 (.agg #[.pointer (some ⟨N + 9, 0, none⟩), .pointer (some ⟨N + 11, 0, none⟩), .pointer (some ⟨N + 13, 0, none⟩), .pointer (some ⟨N + 15, 0, none⟩), .pointer (some ⟨N + 17, 0, none⟩), .pointer (some ⟨N + 19, 0, none⟩), .pointer (some ⟨N + 21, 0, none⟩), .pointer (some ⟨N + 23, 0, none⟩)]) (.int .i64 1)).run Tryz.prog w = .ok (.pointer (some ⟨N + 11, 0, none⟩)) w := fun w => by kernel_rfl
  have i2 : ∀ w : World, (Instr.index 78 (.agg #[.pointer (some ⟨N + 9, 0, none⟩), .pointer (some ⟨N + 11, 0, none⟩), .pointer (some ⟨N + 13, 0, none⟩), .pointer (some ⟨N + 15, 0, none⟩), .pointer (some ⟨N + 17, 0, none⟩), .pointer (some ⟨N + 19, 0, none⟩), .pointer (some ⟨N + 21, 0, none⟩), .pointer (some ⟨N + 23, 0, none⟩)]) (.int .i64 2)).run Tryz.prog w = .ok (.pointer (some ⟨N + 13, 0, none⟩)) w := fun w => by kernel_rfl
  have i3 : ∀ w : World, (Instr.index 78 (.agg #[.pointer (some ⟨N + 9, 0, none⟩), .pointer (some ⟨N + 11, 0, none⟩), .pointer (some ⟨N + 13, 0, none⟩), .pointer (some ⟨N + 15, 0, none⟩), .pointer (some ⟨N + 17, 0, none⟩), .pointer (some ⟨N + 19, 0, none⟩), .pointer (some ⟨N + 21, 0, none⟩), .pointer (some ⟨N + 23, 0, none⟩)]) (.int .i64 3)).run Tryz.prog w = .ok (.pointer (some ⟨N + 15, 0, none⟩)) w := fun w => by kernel_rfl
  have i4 : ∀ w : World, (Instr.index 78 (.agg #[.pointer (some ⟨N + 9, 0, none⟩), .pointer (some ⟨N + 11, 0, none⟩), .pointer (some ⟨N + 13, 0, none⟩), .pointer (some ⟨N + 15, 0, none⟩), .pointer (some ⟨N + 17, 0, none⟩), .pointer (some ⟨N + 19, 0, none⟩), .pointer (some ⟨N + 21, 0, none⟩), .pointer (some ⟨N + 23, 0, none⟩)]) (.int .i64 4)).run Tryz.prog w = .ok (.pointer (some ⟨N + 17, 0, none⟩)) w := fun w => by kernel_rfl
  have i5 : ∀ w : World, (Instr.index 78 (.agg #[.pointer (some ⟨N + 9, 0, none⟩), .pointer (some ⟨N + 11, 0, none⟩), .pointer (some ⟨N + 13, 0, none⟩), .pointer (some ⟨N + 15, 0, none⟩), .pointer (some ⟨N + 17, 0, none⟩), .pointer (some ⟨N + 19, 0, none⟩), .pointer (some ⟨N + 21, 0, none⟩), .pointer (some ⟨N + 23, 0, none⟩)]) (.int .i64 5)).run Tryz.prog w = .ok (.pointer (some ⟨N + 19, 0, none⟩)) w := fun w => by kernel_rfl
  have i6 : ∀ w : World, (Instr.index 78 (.agg #[.pointer (some ⟨N + 9, 0, none⟩), .pointer (some ⟨N + 11, 0, none⟩), .pointer (some ⟨N + 13, 0, none⟩), .pointer (some ⟨N + 15, 0, none⟩), .pointer (some ⟨N + 17, 0, none⟩), .pointer (some ⟨N + 19, 0, none⟩), .pointer (some ⟨N + 21, 0, none⟩), .pointer (some ⟨N + 23, 0, none⟩)]) (.int .i64 6)).run Tryz.prog w = .ok (.pointer (some ⟨N + 21, 0, none⟩)) w := fun w => by kernel_rfl
  have i7 : ∀ w : World, (Instr.index 78 (.agg #[.pointer (some ⟨N + 9, 0, none⟩), .pointer (some ⟨N + 11, 0, none⟩), .pointer (some ⟨N + 13, 0, none⟩), .pointer (some ⟨N + 15, 0, none⟩), .pointer (some ⟨N + 17, 0, none⟩), .pointer (some ⟨N + 19, 0, none⟩), .pointer (some ⟨N + 21, 0, none⟩), .pointer (some ⟨N + 23, 0, none⟩)]) (.int .i64 7)).run Tryz.prog w = .ok (.pointer (some ⟨N + 23, 0, none⟩)) w := fun w => by kernel_rfl
  clear k2 o2 b0' b1' y3 hs2 d3 O1 B1
  go_wp2_with fail
  refine wp_loop_rounds 9 ?_
  rw [rounds_succ]
  go_wp2_with (go_at_call 70; refine (mapAll _ _).mono ?_; rintro e v0 ⟨rfl, hb, ho⟩; (have B0 := Lib.hid hb); (have Z0 := Lib.hid ho); clear hb ho)
  refine wp_range_map (mb := N + 9) (rb := N + 8) (n := n) rfl h1 h2 (by simpa using B0.out) ((HS.out.zf 0 (by omega)).only ((O2.out.trans ((Only.refl _ _).alloc _)).trans Z0.out) (by simp) (by simp)) ?_
  intro u3 ho hm
  have oo := (O2.out.trans ((Only.refl _ _).alloc _)).trans Z0.out
  have k := (K2.out.only (((Only.refl _ _).alloc _).trans Z0.out) (by simp)).cons ho (by simp) oo.size hm
  have o := oo.trans ho
  have ou : Only [] u2 u3 := (((Only.refl _ _).alloc _).trans Z0.out).trans ho
  have O3 := Lib.hid o
  have K3 := Lib.hid k
  have U3 := Lib.hid ou
  clear oo k o ou ho hm B0 Z0 K2
  go_wp2_with fail
  rw [rounds_succ]
  go_wp2_with (go_at_call 70; refine (mapAll _ _).mono ?_; rintro e v1 ⟨rfl, hb, ho⟩; (have B1 := Lib.hid hb); (have Z1 := Lib.hid ho); clear hb ho)
  refine wp_range_map (mb := N + 11) (rb := N + 10) (n := n) rfl h1 h2 (by simpa using B1.out) ((HS.out.zf 1 (by omega)).only ((O3.out.trans ((Only.refl _ _).alloc _)).trans Z1.out) (by simp) (by simp)) ?_
  intro u4 ho hm
  have oo := (O3.out.trans ((Only.refl _ _).alloc _)).trans Z1.out
  have k := (K3.out.only (((Only.refl _ _).alloc _).trans Z1.out) (by simp)).cons ho (by simp) oo.size hm
  have o := oo.trans ho
  have ou : Only [] u3 u4 := (((Only.refl _ _).alloc _).trans Z1.out).trans ho
  have O4 := Lib.hid o
  have K4 := Lib.hid k
  have U4 := Lib.hid ou
  clear oo k o ou ho hm B1 Z1 K3
  go_wp2_with fail
  rw [rounds_succ]
  go_wp2_with (go_at_call 70; refine (mapAll _ _).mono ?_; rintro e v2 ⟨rfl, hb, ho⟩; (have B2 := Lib.hid hb); (have Z2 := Lib.hid ho); clear hb ho)
  refine wp_range_map (mb := N + 13) (rb := N + 12) (n := n) rfl h1 h2 (by simpa using B2.out) ((HS.out.zf 2 (by omega)).only ((O4.out.trans ((Only.refl _ _).alloc _)).trans Z2.out) (by simp) (by simp)) ?_
  intro u5 ho hm
  have oo := (O4.out.trans ((Only.refl _ _).alloc _)).trans Z2.out
  have k := (K4.out.only (((Only.refl _ _).alloc _).trans Z2.out) (by simp)).cons ho (by simp) oo.size hm
  have o := oo.trans ho
  have ou : Only [] u4 u5 := (((Only.refl _ _).alloc _).trans Z2.out).trans ho
  have O5 := Lib.hid o
  have K5 := Lib.hid k
  have U5 := Lib.hid ou
  clear oo k o ou ho hm B2 Z2 K4
  go_wp2_with fail
  rw [rounds_succ]
  go_wp2_with (go_at_call 70; refine (mapAll _ _).mono ?_; rintro e v3 ⟨rfl, hb, ho⟩; (have B3 := Lib.hid hb); (have Z3 := Lib.hid ho); clear hb ho)
  refine wp_range_map (mb := N + 15) (rb := N + 14) (n := n) rfl h1 h2 (by simpa using B3.out) ((HS.out.zf 3 (by omega)).only ((O5.out.trans ((Only.refl _ _).alloc _)).trans Z3.out) (by simp) (by simp)) ?_
  intro u6 ho hm
  have oo := (O5.out.trans ((Only.refl _ _).alloc _)).trans Z3.out
  have k := (K5.out.only (((Only.refl _ _).alloc _).trans Z3.out) (by simp)).cons ho (by simp) oo.size hm
  have o := oo.trans ho
  have ou : Only [] u5 u6 := (((Only.refl _ _).alloc _).trans Z3.out).trans ho
  have O6 := Lib.hid o
  have K6 := Lib.hid k
  have U6 := Lib.hid ou
  clear oo k o ou ho hm B3 Z3 K5
  go_wp2_with fail
  rw [rounds_succ]
  go_wp2_with (go_at_call 70; refine (mapAll _ _).mono ?_; rintro e v4 ⟨rfl, hb, ho⟩; (have B4 := Lib.hid hb); (have Z4 := Lib.hid ho); clear hb ho)
  refine wp_range_map (mb := N + 17) (rb := N + 16) (n := n) rfl h1 h2 (by simpa using B4.out) ((HS.out.zf 4 (by omega)).only ((O6.out.trans ((Only.refl _ _).alloc _)).trans Z4.out) (by simp) (by simp)) ?_
  intro u7 ho hm
  have oo := (O6.out.trans ((Only.refl _ _).alloc _)).trans Z4.out
  have k := (K6.out.only (((Only.refl _ _).alloc _).trans Z4.out) (by simp)).cons ho (by simp) oo.size hm
  have o := oo.trans ho
  have ou : Only [] u6 u7 := (((Only.refl _ _).alloc _).trans Z4.out).trans ho
  have O7 := Lib.hid o
  have K7 := Lib.hid k
  have U7 := Lib.hid ou
  clear oo k o ou ho hm B4 Z4 K6
  go_wp2_with fail
  rw [rounds_succ]
  go_wp2_with (go_at_call 70; refine (mapAll _ _).mono ?_; rintro e v5 ⟨rfl, hb, ho⟩; (have B5 := Lib.hid hb); (have Z5 := Lib.hid ho); clear hb ho)
  refine wp_range_map (mb := N + 19) (rb := N + 18) (n := n) rfl h1 h2 (by simpa using B5.out) ((HS.out.zf 5 (by omega)).only ((O7.out.trans ((Only.refl _ _).alloc _)).trans Z5.out) (by simp) (by simp)) ?_
  intro u8 ho hm
  have oo := (O7.out.trans ((Only.refl _ _).alloc _)).trans Z5.out
  have k := (K7.out.only (((Only.refl _ _).alloc _).trans Z5.out) (by simp)).cons ho (by simp) oo.size hm
  have o := oo.trans ho
  have ou : Only [] u7 u8 := (((Only.refl _ _).alloc _).trans Z5.out).trans ho
  have O8 := Lib.hid o
  have K8 := Lib.hid k
  have U8 := Lib.hid ou
  clear oo k o ou ho hm B5 Z5 K7
  go_wp2_with fail
  rw [rounds_succ]
  go_wp2_with (go_at_call 70; refine (mapAll _ _).mono ?_; rintro e v6 ⟨rfl, hb, ho⟩; (have B6 := Lib.hid hb); (have Z6 := Lib.hid ho); clear hb ho)
  refine wp_range_map (mb := N + 21) (rb := N + 20) (n := n) rfl h1 h2 (by simpa using B6.out) ((HS.out.zf 6 (by omega)).only ((O8.out.trans ((Only.refl _ _).alloc _)).trans Z6.out) (by simp) (by simp)) ?_
  intro u9 ho hm
  have oo := (O8.out.trans ((Only.refl _ _).alloc _)).trans Z6.out
  have k := (K8.out.only (((Only.refl _ _).alloc _).trans Z6.out) (by simp)).cons ho (by simp) oo.size hm
  have o := oo.trans ho
  have ou : Only [] u8 u9 := (((Only.refl _ _).alloc _).trans Z6.out).trans ho
  have O9 := Lib.hid o
  have K9 := Lib.hid k
  have U9 := Lib.hid ou
  clear oo k o ou ho hm B6 Z6 K8
  go_wp2_with fail
  rw [rounds_succ]
  go_wp2_with (go_at_call 70; refine (mapAll _ _).mono ?_; rintro e v7 ⟨rfl, hb, ho⟩; (have B7 := Lib.hid hb); (have Z7 := Lib.hid ho); clear hb ho)
  refine wp_range_map (mb := N + 23) (rb := N + 22) (n := n) rfl h1 h2 (by simpa using B7.out) ((HS.out.zf 7 (by omega)).only ((O9.out.trans ((Only.refl _ _).alloc _)).trans Z7.out) (by simp) (by simp)) ?_
  intro u10 ho hm
  have oo := (O9.out.trans ((Only.refl _ _).alloc _)).trans Z7.out
  have k := (K9.out.only (((Only.refl _ _).alloc _).trans Z7.out) (by simp)).cons ho (by simp) oo.size hm
  have o := oo.trans ho
  have ou : Only [] u9 u10 := (((Only.refl _ _).alloc _).trans Z7.out).trans ho
  have O10 := Lib.hid o
  have K10 := Lib.hid k
  have U10 := Lib.hid ou
  clear oo k o ou ho hm B7 Z7 K9
  go_wp2_with fail
  rw [rounds_succ]
  have y1 : u10.cell? ⟨w.heap.size + 1, 0, none⟩ = some (.int .i64 ((n : Int) * 64)) := by
    rw [((((((((X.out.only U3.out (by simp)).only U4.out (by simp)).only U5.out (by simp)).only U6.out (by simp)).only U7.out (by simp)).only U8.out (by simp)).only U9.out (by simp)).only U10.out (by simp)).cell]; rfl
  have y0 : u10.cell? ⟨w.heap.size, 0, none⟩ = some (.pointer (some ⟨N + 5, 0, none⟩)) := by
    rw [((((((((BX.out.only U3.out (by simp)).only U4.out (by simp)).only U5.out (by simp)).only U6.out (by simp)).only U7.out (by simp)).only U8.out (by simp)).only U9.out (by simp)).only U10.out (by simp)).cell]; rfl
  have hs3 := HS.out.only O10.out (by simp)
  have e0 := hs3.cells.1
  clear hs3 d0 d1 d2 d4 d5 d6 d7 d8 x0
  go_wp2_with fail
  have en : ¬ ((n : Int) * 64 = -1) := by omega
  go_quiet (fail)
  go_wp2_with fail
  exact leavesK_marksOk (K10.out.only ((Only.refl [] _).drewN _) (by simp)) (O10.out.drewN _) (fun w' _ => by simp [results, Tryz.results26, go_sem]) (fun w' ho => ⟨rfl, ho⟩)
end Go.Proofs.YtkkkfaifkmmhpaaGreatDoor
