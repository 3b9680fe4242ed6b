/- The makers: pages.New, bitmap.New, hearthref7.New, Words. -/
import Derived.Test.YtkkkfaifkmmhpaaGreatDoorRows
import Derived.WalkKit
import Derived.WalkSpells
import Derived.WalkLawsBesides
import Derived.Handy
import Derived.Lib.Hide
import Derived.Deep.RegionWith
import Derived.Deep.RegionLaw
import Derived.Deep.RegionHeld3
import Derived.Deep.QuietTactic
import Derived.BigQuiet
import Derived.Deep.DeepCutAuto
import Derived.Deep.CutRange
import Derived.Deep.CutBlock
import Derived.Deep.LoopGhost
namespace Go.Proofs.YtkkkfaifkmmhpaaGreatDoor
open Go.RowKit

theorem Tryz.info139 : (Tryz.prog.info? 139).map (fun i => (i.zero, i.size, i.bytes)) = some (some (.agg #[.int .i64 0, .int .i64 0, .int .i64 0]), 3, 24) := by kernel_rfl
theorem Tryz.info132 : (Tryz.prog.info? 132).map (fun i => (i.zero, i.size, i.bytes)) = some (some (.int .u64 0), 1, 8) := by kernel_rfl
theorem Tryz.info3 : (Tryz.prog.info? 3).map (fun i => (i.zero, i.size, i.bytes)) = some (some (.int .i64 0), 1, 8) := by kernel_rfl
theorem Tryz.info91 : (Tryz.prog.info? 91).map (fun i => (i.zero, i.size, i.bytes)) = some (some (.agg #[.int .i64 0, .int .i64 0, .int .i64 0, .int .i64 0, .int .i64 0]), 5, 40) := by kernel_rfl

/-- The block b holds just these cells, none of them frozen. -/
def Blk (w : World) (b : Nat) (c : Array Value) (t : TypeId) : Prop := w.heap[b]? = some (.cells c t (0, 0))

theorem Blk.cell {w : World} {b : Nat} {c : Array Value} {t : TypeId} (h : Blk w b c t) (i : Nat) : w.cell? ⟨b, i, none⟩ = c[i]? := by
  unfold Blk at h; simp [World.cell?, h]
theorem Blk.free {w : World} {b : Nat} {c : Array Value} {t : TypeId} (h : Blk w b c t) (i : Nat) : w.frozen? ⟨b, i, none⟩ = false := by
  unfold Blk at h; simp [World.frozen?, h]
theorem Blk.lt {w : World} {b : Nat} {c : Array Value} {t : TypeId} (h : Blk w b c t) : b < w.heap.size := lt_of_block h

/-- The zero cells of n elements. -/
abbrev zPages (n : Nat) : Array Value := madeCells #[.int .i64 0, .int .i64 0, .int .i64 0] (n * 3)
abbrev zRows (n : Nat) : Array Value := madeCells #[.int .u64 0] n
abbrev zWords (n : Nat) : Array Value := madeCells #[.int .i64 0] n
abbrev zObjs (n : Nat) : Array Value := madeCells #[.int .i64 0, .int .i64 0, .int .i64 0, .int .i64 0, .int .i64 0] (n * 5)

set_option maxRecDepth 100000
set_option maxHeartbeats 400000 in
theorem pagesNew_ok (n : Int) (w : World) (h1 : 1 ≤ n) (h2 : n ≤ 4096) :
    Calls Tryz.prog 34 #[.int .i64 n] w fun e w' => e = .returned (.tuple #[.pointer (some ⟨w.heap.size + 1, 0, none⟩), .int .i64 0]) ∧
      w' = (w.alloc (.cells (zPages n.toNat) 139)).alloc (.cells #[.slice (some ⟨w.heap.size, 0, none⟩) n.toNat n.toNat, .int .i64 0, .int .i64 n] 125) := by
  obtain ⟨i, hi, hz, hs, hb⟩ := info_parts Tryz.info139
  have hm := run_make (P := Tryz.prog) w 67 139 i _ Tryz.underlying67 hi hz .i64 .i64 n n (by omega) (by omega) (by rw [hb]; omega) (by omega)
  rw [hs] at hm
  clear hi hz hs hb
  go_enter Tryz.func34, Tryz.ntmps34
  go_wp2
  go_ret2
  exact ⟨rfl, rfl⟩

set_option maxHeartbeats 400000 in
theorem pagesNew_no (n : Int) (w : World) (h : n < 1 ∨ 4096 < n) :
    Calls Tryz.prog 34 #[.int .i64 n] w fun e w' => e = .returned (.tuple #[.pointer none, .int .i64 1]) ∧ w = w' := by
  go_enter Tryz.func34, Tryz.ntmps34
  go_wp2
  all_goals first | (exfalso; omega) | (go_ret2; exact ⟨rfl, rfl⟩)

set_option maxHeartbeats 400000 in
theorem ref7New_ok (n : Int) (w : World) (h1 : 1 ≤ n) (h2 : n ≤ 4096) :
    Calls Tryz.prog 36 #[.int .i64 n] w fun e w' => e = .returned (.tuple #[.pointer (some ⟨w.heap.size + 1, 0, none⟩), .int .i64 0]) ∧
      w' = (w.alloc (.cells (zPages n.toNat) 139)).alloc (.cells #[.slice (some ⟨w.heap.size, 0, none⟩) n.toNat n.toNat] 123) := by
  obtain ⟨i, hi, hz, hs, hb⟩ := info_parts Tryz.info139
  have hm := run_make (P := Tryz.prog) w 67 139 i _ Tryz.underlying67 hi hz .i64 .i64 n n (by omega) (by omega) (by rw [hb]; omega) (by omega)
  rw [hs] at hm
  clear hi hz hs hb
  go_enter Tryz.func36, Tryz.ntmps36
  go_wp2
  go_ret2
  exact ⟨rfl, rfl⟩

set_option maxHeartbeats 400000 in
theorem ref7New_no (n : Int) (w : World) (h : n < 1 ∨ 4096 < n) :
    Calls Tryz.prog 36 #[.int .i64 n] w fun e w' => e = .returned (.tuple #[.pointer none, .int .i64 1]) ∧ w = w' := by
  go_enter Tryz.func36, Tryz.ntmps36
  go_wp2
  all_goals first | (exfalso; omega) | (go_ret2; exact ⟨rfl, rfl⟩)

set_option maxHeartbeats 400000 in
theorem bitmapNew_ok (n : Nat) (m : Int) (w : World) (hm : m = 64 * (n : Int)) (h1 : 1 ≤ n) (h2 : n ≤ 4096) :
    Calls Tryz.prog 35 #[.int .i64 m] w fun e w' => e = .returned (.tuple #[.pointer (some ⟨w.heap.size + 1, 0, none⟩), .int .i64 0]) ∧
      w' = (w.alloc (.cells (zRows n) 132)).alloc (.cells #[.int .i64 m, .slice (some ⟨w.heap.size, 0, none⟩) n n] 128) := by
  obtain ⟨i, hi, hz, hs, hb⟩ := info_parts Tryz.info132
  have hmk := run_make (P := Tryz.prog) w 126 132 i _ Tryz.underlying126 hi hz .i64 .i64 ((m + 63) / 64) ((m + 63) / 64) (by omega) (by omega) (by rw [hb]; omega) (by omega)
  rw [hs] at hmk
  have e : ((m + 63) / 64).toNat = n := by omega
  rw [e] at hmk
  have l0 : 0 ≤ m := by omega
  have l1 : m ≤ 262144 := by omega
  clear hi hz hs hb e hm
  go_enter Tryz.func35, Tryz.ntmps35
  go_wp2
  go_ret2
  exact ⟨rfl, rfl⟩
end Go.Proofs.YtkkkfaifkmmhpaaGreatDoor
