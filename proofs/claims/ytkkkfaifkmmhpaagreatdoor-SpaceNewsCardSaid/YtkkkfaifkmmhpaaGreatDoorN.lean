/- An empty space: space.Blocks, Use, Words. -/
import Derived.Test.YtkkkfaifkmmhpaaGreatDoorM
namespace Go.Proofs.YtkkkfaifkmmhpaaGreatDoor
open Go.RowKit
set_option maxRecDepth 100000

set_option maxHeartbeats 400000 in
theorem spaceAll (s : Nat) (w : World) : Calls Tryz.prog 65 #[.pointer (some ⟨s, 0, none⟩)] w (AllPost w 107 s 31) := by
  have hmf : ∀ (fn : Fn) (first cap : Array Value) (w : World), (Instr.makeFunc fn first cap).run Tryz.prog w = .ok (.func fn first cap) w := fun _ _ _ _ => rfl
  go_enter Tryz.func65, Tryz.ntmps65
  go_wp2
  go_ret
  exact ⟨rfl, Blk.new _ _ rfl, (Only.refl _ _).alloc _⟩

set_option maxHeartbeats 1000000 in
theorem spaceAll1 (l bx N n : Nat) (w : World) (h1 : 1 ≤ n) (h2 : n ≤ 24) (hb : Blk w bx #[.pointer (some ⟨N + 5, 0, none⟩)] 31) (hs : Sp w N n) :
    Calls Tryz.prog 107 #[.func (.yield l) #[] #[], .pointer (some ⟨bx, 0, none⟩)] w fun e w' => e = .returned (.tuple #[]) ∧ Only [] w w' := by
  have c0 : w.cell? ⟨bx, 0, none⟩ = some (.pointer (some ⟨N + 5, 0, none⟩)) := by rw [hb.cell]; rfl
  obtain ⟨_, _, c2, _, _, _⟩ := hs.cells
  have hl := hb.lt
  have hN := hs.sp.lt
  have HS := Lib.hid hs
  clear hb hs
  refine calls_of_wp_K Tryz.func107 rfl ?_
  simp only [Tryz.ntmps107, List.size_toArray, List.length_cons, List.length_nil, Nat.reduceAdd, Nat.reduceSub, Array.replicate_succ,
     Array.replicate_zero, List.push_toArray, List.append_toArray, List.nil_append, List.cons_append]
  go_wp2_with (go_at_call 70; refine (mapAll _ _).mono ?_; rintro e w1 ⟨rfl, hb, ho⟩; (have B1 := Lib.hid hb); (have O1 := Lib.hid ho); clear hb ho)
  have o1 : Only [] w w1 := (((Only.refl _ _).alloc _).trans O1.out)
  refine wp_range_map (mb := N + 7) (rb := N + 6) (n := n) rfl h1 h2 (by simpa using B1.out) (HS.out.zt.only o1 (by simp) (by simp)) ?_
  intro u2 ho2 hm2
  have k2 := (MarksOk.nil w.heap.size w1).cons ho2 (by simp) o1.size hm2
  have o2 := o1.trans ho2
  have K2 := Lib.hid k2
  have O2 := Lib.hid o2
  clear k2 o2 ho2 hm2 o1
  go_wp2_with fail
  exact leavesK_marksOk K2.out O2.out (fun w' _ => by simp [results, Tryz.results107, go_sem]) (fun w' ho => ⟨rfl, ho⟩)

theorem wp_range_space {g : Operand} {ps : Array Tmp} {assign body : Code} {Q : Exit → Act → World → Prop} {a : Act} {u : World} {bx N n : Nat}
    (hg : a.eval g = .func (.func 107) #[] #[.pointer (some ⟨bx, 0, none⟩)]) (h1 : 1 ≤ n) (h2 : n ≤ 24) (hb : Blk u bx #[.pointer (some ⟨N + 5, 0, none⟩)] 31) (hz : Sp u N n)
    (h : ∀ u', Only [] u u' → u'.heap[u.heap.size]? = some (.deferred (some [])) → Q .normal { a with defers := { target := .collected u.heap.size, args := #[] } :: a.defers } u') :
    (Code.rangeFunc g ps assign body).wp Tryz.prog Q a u := by
  refine wp_rangeFunc_none (gf := 107) hg (fun args w => enters_of Tryz.func107 (by kernel_rfl) rfl args w) ?_
  intro rec _ _
  have o : Only [] u ((u.alloc (.deferred (some []))).alloc (.loop rec)) := ((Only.refl _ _).alloc _).alloc _
  refine (spaceAll1 _ bx N n _ h1 h2 (hb.only o (by simp)) (hz.only o (by simp))).mono ?_
  rintro e w' ⟨rfl, ho⟩
  have k0 : ((u.alloc (.deferred (some []))).alloc (.loop rec)).heap[u.heap.size]? = some (.deferred (some [])) := by
    rw [heap_alloc, if_neg (by simp), heap_alloc, if_pos rfl]
  have k1 : ((u.alloc (.deferred (some []))).alloc (.loop rec)).heap[u.heap.size + 1]? = some (.loop rec) := by
    rw [heap_alloc, if_pos (by simp)]
  have e0 := ho.block _ (lt_of_block k0) (by simp)
  have e1 := ho.block _ (lt_of_block k1) (by simp)
  refine ⟨⟨_, rfl⟩, e1.trans k1, h _ ⟨ho.os.trans o.os, ho.tape.trans o.tape, ho.output.trans o.output, ?_, ?_⟩ ?_⟩
  · have := (o.trans ho).size
    simpa using this
  · intro k hk _
    rw [World.putObj_heap_other (by omega)]
    exact (o.trans ho).block k hk (by simp)
  · rw [World.putObj_heap_other (by omega)]
    exact e0.trans k0

set_option maxHeartbeats 1000000 in
theorem blocksS (N n : Nat) (w : World) (h1 : 1 ≤ n) (h2 : n ≤ 24) (hs : Sp w N n) :
    Calls Tryz.prog 23 #[.pointer (some ⟨N + 5, 0, none⟩)] w fun e w' => e = .returned (.slice none 0 0) ∧ Only [] w w' := by
  have HS := Lib.hid hs
  clear hs
  refine calls_of_wp_K Tryz.func23 rfl ?_
  simp only [Tryz.ntmps23, List.size_toArray, List.length_cons, List.length_nil, Nat.reduceAdd, Nat.reduceSub, Array.replicate_succ,
     Array.replicate_zero, List.push_toArray, List.append_toArray, List.nil_append, List.cons_append]
  go_wp2_with (go_at_call 65; refine (spaceAll _ _).mono ?_; rintro e w1 ⟨rfl, hb, ho⟩; (have B1 := Lib.hid hb); (have O1 := Lib.hid ho); clear hb ho)
  have o1 : Only [] w w1 := (((Only.refl _ _).alloc _).trans O1.out)
  have b0 : Blk w1 w.heap.size #[.slice none 0 0] 59 := (Blk.new _ _ rfl).only O1.out (by simp)
  refine wp_range_space (N := N) (n := n) rfl h1 h2 (by simpa using B1.out) (HS.out.only o1 (by simp)) ?_
  intro u2 ho2 hm2
  have k2 := (MarksOk.nil w.heap.size w1).cons ho2 (by simp) o1.size hm2
  have o2 := o1.trans ho2
  have b2 := b0.only ho2 (by simp)
  have x0 : u2.cell? ⟨w.heap.size, 0, none⟩ = some (.slice none 0 0) := by rw [b2.cell]; rfl
  have K2 := Lib.hid k2
  have O2 := Lib.hid o2
  clear k2 o2 ho2 hm2 o1 b0 b2
  go_wp2_with fail
  exact leavesK_marksOk K2.out O2.out (fun w' _ => by simp [results, Tryz.results23, go_sem]) (fun w' ho => ⟨rfl, ho⟩)

set_option maxHeartbeats 400000 in
theorem wordsS (N n : Nat) (w : World) (hs : Sp w N n) :
    Calls Tryz.prog 9 #[.pointer (some ⟨N + 5, 0, none⟩)] w fun e w' => e = .returned (.int .i64 ((n : Int) * 64)) ∧ w' = w := by
  obtain ⟨c0, _⟩ := hs.cells
  clear hs
  go_enter Tryz.func9, Tryz.ntmps9
  go_wp2
  go_ret
  exact ⟨by simp, rfl⟩

theorem quo0 (n : Nat) (h1 : 1 ≤ n) (h2 : n ≤ 24) : (∀ w : World, (binOp BinOp.quo 64 (.float .f64 (floatOfInt .f64 0)) (.float .f64 (floatOfInt .f64 ((n : Int) * 64)))).run Tryz.prog w = .ok (.float .f64 0) w) := by
  obtain rfl | rfl | rfl | rfl | rfl | rfl | rfl | rfl | rfl | rfl | rfl | rfl | rfl | rfl | rfl | rfl | rfl | rfl | rfl | rfl | rfl | rfl | rfl | rfl : n = 1 ∨ n = 2 ∨ n = 3 ∨ n = 4 ∨ n = 5 ∨ n = 6 ∨ n = 7 ∨ n = 8 ∨ n = 9 ∨ n = 10 ∨ n = 11 ∨ n = 12 ∨ n = 13 ∨ n = 14 ∨ n = 15 ∨ n = 16 ∨ n = 17 ∨ n = 18 ∨ n = 19 ∨ n = 20 ∨ n = 21 ∨ n = 22 ∨ n = 23 ∨ n = 24 := by omega
  all_goals exact fun _ => by kernel_rfl

set_option maxHeartbeats 400000 in
theorem useS (N n : Nat) (w : World) (h1 : 1 ≤ n) (h2 : n ≤ 24) (hs : Sp w N n) :
    Calls Tryz.prog 28 #[.pointer (some ⟨N + 5, 0, none⟩)] w fun e w' => e = .returned (.float .f64 0) ∧ Only [] w w' := by
  obtain ⟨c0, _, _, _, c7, c8⟩ := hs.cells
  clear hs
  go_enter Tryz.func28, Tryz.ntmps28
  go_wp2
  have q := quo0 n h1 h2
  go_quiet (fail)
  clear q
  go_wp2
  go_ret
  exact ⟨rfl, (Only.refl _ _).drewN _⟩
end Go.Proofs.YtkkkfaifkmmhpaaGreatDoor
