/- package bitmap, of one row: Set, Clear, Next; space.link. -/
import Derived.Test.YtkkkfaifkmmhpaaGreatDoorD
namespace Go.Proofs.YtkkkfaifkmmhpaaGreatDoor
open Go.RowKit
set_option maxRecDepth 100000

/-- Of what there was, only the blocks of the list may have changed. -/
structure Only (S : List Nat) (w w' : World) : Prop where
  os : w'.os = w.os
  tape : w'.tape = w.tape
  output : w'.output = w.output
  size : w.heap.size ≤ w'.heap.size
  block : ∀ k, k < w.heap.size → k ∉ S → w'.heap[k]? = w.heap[k]?

theorem Only.refl (S : List Nat) (w : World) : Only S w w := ⟨rfl, rfl, rfl, Nat.le_refl _, fun _ _ _ => rfl⟩
theorem Only.trans {S : List Nat} {a b c : World} (h : Only S a b) (k : Only S b c) : Only S a c :=
  ⟨k.os.trans h.os, k.tape.trans h.tape, k.output.trans h.output, Nat.le_trans h.size k.size,
    fun i hi hS => (k.block i (Nat.lt_of_lt_of_le hi h.size) hS).trans (h.block i hi hS)⟩
theorem Only.mono {S T : List Nat} {w w' : World} (h : Only S w w') (hST : ∀ x, x ∈ S → x ∈ T) : Only T w w' :=
  ⟨h.os, h.tape, h.output, h.size, fun k hk hT => h.block k hk (fun hS => hT (hST k hS))⟩
theorem Only.of_below {S : List Nat} {w w' : World} (h : Below w.heap.size w w') : Only S w w' :=
  ⟨h.os, h.tape, h.output, h.size, fun k hk _ => h.block k hk⟩
theorem Only.setCell {S : List Nat} {w w' : World} (h : Only S w w') {a : Addr} (ha : a.block ∈ S) (v : Value) : Only S w (w'.setCell a v) :=
  ⟨h.os, h.tape, h.output, by simpa using h.size, fun k hk hS => by
    have hne : k ≠ a.block := fun e => hS (by rw [e]; exact ha)
    rw [heap_setCell_other hne]; exact h.block k hk hS⟩
theorem Only.drew {S : List Nat} {w w' : World} (h : Only S w w') : Only S w w'.drew := ⟨h.os, h.tape, h.output, h.size, h.block⟩
theorem Only.drewN {S : List Nat} {w w' : World} (h : Only S w w') (n : Nat) : Only S w (w'.drewN n) := ⟨h.os, h.tape, h.output, h.size, h.block⟩
theorem Only.alloc {S : List Nat} {w w' : World} (h : Only S w w') (o : Obj) : Only S w (w'.alloc o) :=
  ⟨h.os, h.tape, h.output, by simp; exact Nat.le_succ_of_le h.size, fun k hk hS => by
    have := h.size
    rw [heap_alloc, if_neg (by omega)]; exact h.block k hk hS⟩
theorem Only.below {S : List Nat} {w w' : World} (h : Only S w w') {B : Nat} (hB : B ≤ w.heap.size) (hS : ∀ x, x ∈ S → B ≤ x) : Below B w w' :=
  ⟨h.os, h.tape, h.output, h.size, fun k hk => h.block k (by omega) (fun hm => by have := hS k hm; omega)⟩
theorem Blk.only {S : List Nat} {w w' : World} {b : Nat} {c : Array Value} {t : TypeId} (h : Blk w b c t) (hw : Only S w w') (hb : b ∉ S) : Blk w' b c t := by
  have := h.lt
  unfold Blk at *
  rw [hw.block b this hb]; exact h
theorem Tab.only {S : List Nat} {w w' : World} (h : Tab w) (hw : Only S w w') (hb : 0 ∉ S) : Tab w' := by
  intro j hj
  have h0 := h j hj
  have hlt : 0 < w.heap.size := World.block_lt_of_cell? w ⟨0, j, none⟩ h0
  rw [← h0]
  exact World.cell?_of_block (w := w) (hw.block 0 hlt hb)

abbrev mapC (rb : Nat) : Array Value := #[.int .i64 64, .slice (some ⟨rb, 0, none⟩) 1 1]

/-- What a change of a row leaves. -/
def RowPost (w : World) (rb : Nat) (v : Int) (e : Ending) (w' : World) : Prop :=
  e = .returned (.int .i64 0) ∧ Blk w' rb #[.int .u64 v] 132 ∧ Only [rb] w w'

set_option maxHeartbeats 400000 in
theorem good_one (mb rb i : Nat) (w : World) (hi : i < 64) (hm : Blk w mb (mapC rb) 128) :
    Calls Tryz.prog 122 #[.pointer (some ⟨mb, 0, none⟩), .int .i64 (i : Int), .int .i64 ((i : Int) + 1)] w fun e w' => e = .returned (.bool true) ∧ w = w' := by
  have c0 : w.cell? ⟨mb, 0, none⟩ = some (.int .i64 64) := by rw [hm.cell]; rfl
  clear hm
  go_enter Tryz.func122, Tryz.ntmps122
  go_wp2
  all_goals first | (exfalso; omega) | skip
  go_ret
  refine ⟨?_, rfl⟩
  simp
  omega

set_option maxHeartbeats 400000 in
theorem setRange1 (mb rb i : Nat) (r : Int) (w : World) (hi : i < 64) (hm : Blk w mb (mapC rb) 128) (hr : Blk w rb #[.int .u64 r] 132) :
    Calls Tryz.prog 88 #[.pointer (some ⟨mb, 0, none⟩), .int .i64 (i : Int), .int .i64 ((i : Int) + 1)] w (RowPost w rb (Go.bits .or .u64 r (pt i (i + 1)))) := by
  have c1 : w.cell? ⟨mb, 1, none⟩ = some (.slice (some ⟨rb, 0, none⟩) 1 1) := by rw [hm.cell]; rfl
  have c2 : w.cell? ⟨rb, 0, none⟩ = some (.int .u64 r) := by rw [hr.cell]; rfl
  have f2 : w.frozen? ⟨rb, 0, none⟩ = false := hr.free _
  have HM := Lib.hid hm
  have HR := Lib.hid hr
  clear hm hr
  go_enter Tryz.func88, Tryz.ntmps88
  go_wp2_with (first
    | (go_at_call 122; refine (good_one _ _ _ _ hi HM.out).mono ?_; rintro e w1 ⟨rfl, rfl⟩))
  have e0 : (i : Int) / 64 = 0 := by omega
  simp only [e0]
  clear e0
  refine wp_loop_rounds 2 ?_
  rw [rounds_succ]
  go_wp2_with fail
  all_goals first | (exfalso; omega) | skip
  go_region_with (go_at_call 118; refine (part_any i (i + 1) _ (by omega) (by omega)).mono ?_; rintro e w1 ⟨rfl, rfl⟩)
  all_goals
    go_wp2_with fail
    rw [rounds_succ]
    go_wp2_with fail
    all_goals first | (exfalso; omega) | skip
    go_ret
    exact ⟨rfl, HR.out.setCell_same 0 _, ((Only.refl _ _).setCell (by simp) _).drew⟩

set_option maxHeartbeats 400000 in
theorem clearRange1 (mb rb i : Nat) (r : Int) (w : World) (hi : i < 64) (hm : Blk w mb (mapC rb) 128) (hr : Blk w rb #[.int .u64 r] 132) :
    Calls Tryz.prog 121 #[.pointer (some ⟨mb, 0, none⟩), .int .i64 (i : Int), .int .i64 ((i : Int) + 1)] w (RowPost w rb (Go.bits .andNot .u64 r (pt i (i + 1)))) := by
  have c1 : w.cell? ⟨mb, 1, none⟩ = some (.slice (some ⟨rb, 0, none⟩) 1 1) := by rw [hm.cell]; rfl
  have c2 : w.cell? ⟨rb, 0, none⟩ = some (.int .u64 r) := by rw [hr.cell]; rfl
  have f2 : w.frozen? ⟨rb, 0, none⟩ = false := hr.free _
  have HM := Lib.hid hm
  have HR := Lib.hid hr
  clear hm hr
  go_enter Tryz.func121, Tryz.ntmps121
  go_wp2_with (first
    | (go_at_call 122; refine (good_one _ _ _ _ hi HM.out).mono ?_; rintro e w1 ⟨rfl, rfl⟩))
  have e0 : (i : Int) / 64 = 0 := by omega
  simp only [e0]
  clear e0
  refine wp_loop_rounds 2 ?_
  rw [rounds_succ]
  go_wp2_with fail
  all_goals first | (exfalso; omega) | skip
  go_region_with (go_at_call 118; refine (part_any i (i + 1) _ (by omega) (by omega)).mono ?_; rintro e w1 ⟨rfl, rfl⟩)
  all_goals
    go_wp2_with fail
    rw [rounds_succ]
    go_wp2_with fail
    all_goals first | (exfalso; omega) | skip
    go_ret
    exact ⟨rfl, HR.out.setCell_same 0 _, ((Only.refl _ _).setCell (by simp) _).drew⟩


set_option maxHeartbeats 400000 in
theorem set1 (mb rb i : Nat) (r : Int) (w : World) (hi : i < 64) (hm : Blk w mb (mapC rb) 128) (hr : Blk w rb #[.int .u64 r] 132) :
    Calls Tryz.prog 42 #[.pointer (some ⟨mb, 0, none⟩), .int .i64 (i : Int)] w (RowPost w rb (Go.bits .or .u64 r (pt i (i + 1)))) := by
  have HM := Lib.hid hm
  have HR := Lib.hid hr
  clear hm hr
  go_enter Tryz.func42, Tryz.ntmps42
  go_wp2_with (first
    | (go_at_call 88; refine (setRange1 _ _ _ _ _ hi HM.out HR.out).mono ?_; rintro e w1 ⟨rfl, h1, h2⟩; (have H1 := Lib.hid h1); (have H2 := Lib.hid h2); clear h1 h2))
  go_ret
  exact ⟨rfl, H1.out, H2.out⟩

set_option maxHeartbeats 400000 in
theorem clear1 (mb rb i : Nat) (r : Int) (w : World) (hi : i < 64) (hm : Blk w mb (mapC rb) 128) (hr : Blk w rb #[.int .u64 r] 132) :
    Calls Tryz.prog 85 #[.pointer (some ⟨mb, 0, none⟩), .int .i64 (i : Int)] w (RowPost w rb (Go.bits .andNot .u64 r (pt i (i + 1)))) := by
  have HM := Lib.hid hm
  have HR := Lib.hid hr
  clear hm hr
  go_enter Tryz.func85, Tryz.ntmps85
  go_wp2_with (first
    | (go_at_call 121; refine (clearRange1 _ _ _ _ _ hi HM.out HR.out).mono ?_; rintro e w1 ⟨rfl, h1, h2⟩; (have H1 := Lib.hid h1); (have H2 := Lib.hid h2); clear h1 h2))
  go_ret
  exact ⟨rfl, H1.out, H2.out⟩

theorem tz_in (x : Int) : 0 ≤ tz x ∧ tz x ≤ 63 := tab_in _ (by have := tzIdx_in x; omega)

theorem part64 (a : Nat) (w : World) (h : a < 64) : Calls Tryz.prog 118 #[.int .i64 0, .int .i64 (a : Int), .int .i64 64] w fun e w' => e = .returned (.int .u64 (pt a 64)) ∧ w' = w :=
  (part_any a 64 w h (by omega)).mono fun _ _ h => ⟨h.1, h.2.symm⟩

/-- The least that is in, from a number on. -/
def nx (r : Int) (f : Nat) : Int := if Go.bits .and .u64 r (pt f 64) = 0 then -1 else tz (Go.bits .and .u64 r (pt f 64))

def NextPost (w : World) (v : Int) (e : Ending) (w' : World) : Prop := e = .returned (.int .i64 v) ∧ ∃ m, w' = w.drewN m
theorem NextPost.only {w : World} {v : Int} {e : Ending} {w' : World} (h : NextPost w v e w') : e = .returned (.int .i64 v) ∧ Only [] w w' := by
  obtain ⟨he, m, rfl⟩ := h
  exact ⟨he, Only.drewN (Only.refl _ _) _⟩

set_option maxHeartbeats 400000 in
theorem next1 (mb rb i : Nat) (r : Int) (w : World) (hT : Tab w) (hi : i < 64) (hm : Blk w mb (mapC rb) 128) (hr : Blk w rb #[.int .u64 r] 132) (hp : 0 ≤ Go.bits .and .u64 r (pt i 64)) :
    Calls Tryz.prog 80 #[.pointer (some ⟨mb, 0, none⟩), .int .i64 (i : Int)] w (NextPost w (nx r i)) := by
  have c0 : w.cell? ⟨mb, 0, none⟩ = some (.int .i64 64) := by rw [hm.cell]; rfl
  have c1 : w.cell? ⟨mb, 1, none⟩ = some (.slice (some ⟨rb, 0, none⟩) 1 1) := by rw [hm.cell]; rfl
  have c2 : w.cell? ⟨rb, 0, none⟩ = some (.int .u64 r) := by rw [hr.cell]; rfl
  have HT := Lib.hid hT
  clear hm hr hT
  unfold nx
  have e0 : (i : Int) / 64 = 0 := by omega
  by_cases hz : Go.bits .and .u64 r (pt i 64) = 0
  · simp only [hz, if_true]
    clear hp
    go_enter Tryz.func80, Tryz.ntmps80
    go_wp2_with fail
    all_goals first | (exfalso; omega) | skip
    refine wp_loop_rounds 2 ?_
    rw [rounds_succ]
    go_wp2_with fail
    go_quiet ((go_at_call 118; exact Calls.quiet_of_same (part64 i _ hi)))
    go_wp2_with fail
    rw [rounds_succ]
    go_wp2_with fail
    go_ret
    exact ⟨rfl, _, rfl⟩
  · have hpos : 0 < Go.bits .and .u64 r (pt i 64) := by omega
    have hxz : (Go.bits .and .u64 r (pt i 64) == 0) = false := by simp; omega
    have hxz' : (Go.bits .and .u64 r (pt i 64) != 0) = true := by simp; omega
    simp only [hz, if_false]
    have HP := Lib.hid hpos
    clear hp hz hpos
    go_enter Tryz.func80, Tryz.ntmps80
    go_wp2_with fail
    all_goals first | (exfalso; omega) | skip
    refine wp_loop_rounds 2 ?_
    rw [rounds_succ]
    go_wp2_with fail
    go_quiet ((go_at_call 118; exact Calls.quiet_of_same (part64 i _ hi)))
    go_wp2_with (first
      | (go_at_call 119; refine (tz_any _ _ (Tab.only HT.out (Only.drewN (Only.refl [] _) _) (by simp)) HP.out).mono ?_; rintro e w1 ⟨rfl, rfl⟩))
    go_ret
    refine ⟨congrArg (fun x => Ending.returned (.int .i64 x)) ?_, _, rfl⟩
    have := tz_in (Go.bits .and .u64 r (pt i 64))
    unfold wrap64
    omega

theorem nx_in (r : Int) (f : Nat) : -1 ≤ nx r f ∧ nx r f ≤ 63 := by
  unfold nx
  split
  · omega
  · have := tz_in (Go.bits .and .u64 r (pt f 64)); omega

/-- The link behind the block at i. -/
def lk (r : Int) (i : Nat) : Int := Go.bits .or .i64 (nx r (i + 1) * 8) 4

set_option maxHeartbeats 400000 in
theorem link1 (sb mb rb i : Nat) (r : Int) (w : World) (hT : Tab w) (hi : i < 63) (hc : w.cell? ⟨sb, 4, none⟩ = some (.pointer (some ⟨mb, 0, none⟩))) (hm : Blk w mb (mapC rb) 128) (hr : Blk w rb #[.int .u64 r] 132)
    (hp : 0 ≤ Go.bits .and .u64 r (pt (i + 1) 64)) :
    Calls Tryz.prog 71 #[.pointer (some ⟨sb, 0, none⟩), .int .i64 1, .int .i64 (i : Int)] w (NextPost w (lk r i)) := by
  have HX := Lib.hid (nx_in r (i + 1))
  have HN := Lib.hid (next1 mb rb (i + 1) r w hT (by omega) hm hr hp)
  unfold lk
  clear hm hr hT hp
  go_enter Tryz.func71, Tryz.ntmps71
  go_wp2_with (first
    | (go_at_call 80; refine HN.out.mono ?_; rintro e w1 ⟨rfl, m1, rfl⟩)
    | (go_at_call 116; refine (link_any _ _ HX.out.1 (by have := HX.out.2; omega)).mono ?_; rintro e w2 ⟨rfl, rfl⟩))
  go_ret
  exact ⟨rfl, _, rfl⟩
end Go.Proofs.YtkkkfaifkmmhpaaGreatDoor
