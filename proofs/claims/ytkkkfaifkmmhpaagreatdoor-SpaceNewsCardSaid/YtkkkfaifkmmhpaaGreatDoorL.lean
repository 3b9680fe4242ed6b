/- An empty space: bitmap.Next, bitmap.All, space.Wrong, space.Blocks. -/
import Derived.Test.YtkkkfaifkmmhpaaGreatDoorK
namespace Go.Proofs.YtkkkfaifkmmhpaaGreatDoor
open Go.RowKit
set_option maxRecDepth 100000

/-- The word that is all ones. -/
abbrev ones : Int := 18446744073709551615

set_option maxHeartbeats 400000 in
theorem part_all (k n : Nat) (w : World) (h : k < n) (hn : n ≤ 24) : Calls Tryz.prog 118 #[.int .i64 (k : Int), .int .i64 0, .int .i64 ((n : Int) * 64)] w fun e w' => e = .returned (.int .u64 ones) ∧ w' = w := by
  have h1 : (k : Int) < (n : Int) := by omega
  go_enter Tryz.func118, Tryz.ntmps118
  go_wp2
  all_goals first | (exfalso; omega) | skip
  go_ret
  exact ⟨rfl, rfl⟩

theorem and0 : Go.bits .and .u64 0 ones = 0 := by decide +kernel

theorem madeCells_one (v : Value) (n i : Nat) (hi : i < n) : (madeCells #[v] n)[i]? = some v := by
  simp [madeCells, hi, Nat.mod_one]

/-- A bitmap of n rows, none in. -/
structure Zm (w : World) (mb rb n : Nat) : Prop where
  m : Blk w mb #[.int .i64 ((n : Int) * 64), .slice (some ⟨rb, 0, none⟩) n n] 128
  r : Blk w rb (zRows n) 132
theorem Zm.only {w w' : World} {mb rb n : Nat} {S : List Nat} (h : Zm w mb rb n) (ho : Only S w w') (h1 : mb ∉ S) (h2 : rb ∉ S) : Zm w' mb rb n := ⟨h.m.only ho h1, h.r.only ho h2⟩

set_option maxHeartbeats 1000000 in
theorem nextZ (mb rb n : Nat) (w : World) (h1 : 1 ≤ n) (h2 : n ≤ 24) (hz : Zm w mb rb n) :
    Calls Tryz.prog 80 #[.pointer (some ⟨mb, 0, none⟩), .int .i64 0] w fun e w' => e = .returned (.int .i64 (-1)) ∧ Only [] w w' := by
  have c0 : w.cell? ⟨mb, 0, none⟩ = some (.int .i64 ((n : Int) * 64)) := by rw [hz.m.cell]; rfl
  have HZ := Lib.hid hz
  clear hz
  go_enter Tryz.func80, Tryz.ntmps80
  go_wp2_with fail
  all_goals first | (exfalso; omega) | skip
  go_loopw [5] (fun c wr => ∃ k : Nat, k ≤ n ∧ c = .int .i64 k ∧ Only [] w wr) (fun c _ => n - (intOf c).toNat)
  case atStart => exact ⟨0, by omega, rfl, Only.refl _ _⟩
  case round =>
    obtain ⟨k, hk, rfl, ho⟩ := hrel
    have hz := HZ.out.only ho (by simp) (by simp)
    have d0 : wr.cell? ⟨mb, 0, none⟩ = some (.int .i64 ((n : Int) * 64)) := by rw [hz.m.cell]; rfl
    have d1 : wr.cell? ⟨mb, 1, none⟩ = some (.slice (some ⟨rb, 0, none⟩) n n) := by rw [hz.m.cell]; rfl
    have O := Lib.hid ho
    by_cases hlt : k < n
    · have c3 : wr.cell? ⟨rb, k, none⟩ = some (.int .u64 0) := by rw [hz.r.cell]; exact madeCells_one _ _ _ hlt
      have hlt' : (k : Int) < (n : Int) := by omega
      clear ho hz
      go_wp2_with fail
      have h0 := and0
      go_quiet ((go_at_call 118; exact Calls.quiet_of_same (part_all k n _ hlt h2)))
      clear h0
      go_wp2_with fail
      go_roundw
      case rel => exact ⟨k + 1, by omega, by go_num, O.out.trans (Only.drewN (Only.refl _ _) _)⟩
      case measure => simp [intOf]; omega
    · obtain rfl : k = n := by omega
      clear ho hz
      go_wp2_with fail
      go_ret
      exact ⟨rfl, O.out⟩

/-- What the closure of an empty map's All is, and the box that it has. -/
def AllPost (w : World) (f mb : Nat) (t : TypeId) (e : Ending) (w' : World) : Prop :=
  e = .returned (.func (.func f) #[] #[.pointer (some ⟨w.heap.size, 0, none⟩)]) ∧ Blk w' w.heap.size #[.pointer (some ⟨mb, 0, none⟩)] t ∧ Only [] w w'

set_option maxHeartbeats 400000 in
theorem mapAll (mb : Nat) (w : World) : Calls Tryz.prog 70 #[.pointer (some ⟨mb, 0, none⟩)] w (AllPost w 115 mb 77) := by
  have hmf : ∀ (fn : Fn) (first cap : Array Value) (w : World), (Instr.makeFunc fn first cap).run Tryz.prog w = .ok (.func fn first cap) w := fun _ _ _ _ => rfl
  go_enter Tryz.func70, Tryz.ntmps70
  go_wp2
  go_ret
  exact ⟨rfl, Blk.new _ _ rfl, (Only.refl _ _).alloc _⟩

set_option maxHeartbeats 400000 in
theorem mapAll1 (y : Value) (bx mb rb n : Nat) (w : World) (h1 : 1 ≤ n) (h2 : n ≤ 24) (hb : Blk w bx #[.pointer (some ⟨mb, 0, none⟩)] 77) (hz : Zm w mb rb n) :
    Calls Tryz.prog 115 #[y, .pointer (some ⟨bx, 0, none⟩)] w fun e w' => e = .returned (.tuple #[]) ∧ Only [] w w' := by
  have c0 : w.cell? ⟨bx, 0, none⟩ = some (.pointer (some ⟨mb, 0, none⟩)) := by rw [hb.cell]; rfl
  have HN := Lib.hid (nextZ mb rb n w h1 h2 hz)
  clear hb hz
  go_enter Tryz.func115, Tryz.ntmps115
  go_wp2_with (go_at_call 80; refine HN.out.mono ?_; rintro e w1 ⟨rfl, ho⟩; (have O := Lib.hid ho); clear ho)
  refine wp_loop_rounds 1 ?_
  rw [rounds_succ]
  go_wp2_with fail
  go_end0
  exact ⟨rfl, O.out⟩
end Go.Proofs.YtkkkfaifkmmhpaaGreatDoor
