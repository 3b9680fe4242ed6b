/- An empty reference space: Room, Blocks, NextFree, Wrong. -/
import Derived.Test.YtkkkfaifkmmhpaaGreatDoorN
namespace Go.Proofs.YtkkkfaifkmmhpaaGreatDoor
open Go.RowKit
set_option maxRecDepth 100000

theorem RSp.only {w w' : World} {N wb ob n : Nat} {S : List Nat} (h : RSp w N wb ob n) (ho : Only S w w') (hS : ∀ x, x ∈ S → N + 5 ≤ x) : RSp w' N wb ob n := by
  have k : ∀ b, b < N + 5 → b ∉ S := fun b hb hm => by have := hS b hm; omega
  have ht := h.two
  exact ⟨h.two, h.pg.only ho (k _ (by omega)), h.tb.only ho (k _ (by omega)), h.wd.only ho (k _ (by omega)), h.objs.only ho (k _ (by omega)), h.sp.only ho (k _ (by omega))⟩

theorem RSp.cells {w : World} {N wb ob n : Nat} (h : RSp w N wb ob n) : w.cell? ⟨N + 4, 0, none⟩ = some (.slice (some ⟨wb, 0, none⟩) (n * 64) (n * 64)) ∧ w.cell? ⟨N + 4, 1, none⟩ = some (.pointer (some ⟨N + 1, 0, none⟩)) ∧
    w.cell? ⟨N + 4, 2, none⟩ = some (.slice (some ⟨ob, 0, none⟩) (n * 64) (n * 64)) ∧ w.cell? ⟨N + 4, 3, none⟩ = some (.int .i64 0) ∧ w.cell? ⟨N + 1, 0, none⟩ = some (.slice (some ⟨N, 0, none⟩) n n) :=
  ⟨by rw [h.sp.cell]; rfl, by rw [h.sp.cell]; rfl, by rw [h.sp.cell]; rfl, by rw [h.sp.cell]; rfl, by rw [h.tb.cell]; rfl⟩

theorem madeCells_zero (m n i : Nat) (hi : i < n) (hm : 0 < m) : (madeCells (Array.replicate m (.int .i64 0)) n)[i]? = some (.int .i64 0) := by
  have : i % m < m := Nat.mod_lt _ hm
  simp [madeCells, hi, this]

theorem RSp.obj {w : World} {N wb ob n : Nat} (h : RSp w N wb ob n) (i : Nat) (hi : i < n * 64 * 5) : w.cell? ⟨ob, i, none⟩ = some (.int .i64 0) := by
  rw [h.objs.cell]; exact madeCells_zero 5 _ _ (by omega) (by omega)
theorem RSp.page {w : World} {N wb ob n : Nat} (h : RSp w N wb ob n) (i : Nat) (hi : i < n * 3) : w.cell? ⟨N, i, none⟩ = some (.int .i64 0) := by
  rw [h.pg.cell]; exact madeCells_zero 3 _ _ (by omega) (by omega)

set_option maxHeartbeats 1000000 in
theorem roomR (N wb ob n : Nat) (w : World) (h1 : 1 ≤ n) (h2 : n ≤ 24) (hs : RSp w N wb ob n) :
    Calls Tryz.prog 29 #[.pointer (some ⟨N + 4, 0, none⟩)] w fun e w' => e = .returned (.int .i64 0) ∧ w' = w := by
  obtain ⟨_, _, c2, _, _⟩ := hs.cells
  have HS := Lib.hid hs
  clear hs
  go_enter Tryz.func29, Tryz.ntmps29
  go_wp2_with fail
  go_loopw [3, 4] (fun d c wr => d = .int .i64 0 ∧ ∃ k : Nat, k ≤ n * 64 ∧ c = .int .i64 k ∧ wr = w) (fun _ c _ => n * 64 - (intOf c).toNat)
  case atStart => exact ⟨rfl, 0, by omega, rfl, rfl⟩
  case round =>
    obtain ⟨rfl, k, hk, rfl, rfl⟩ := hrel
    by_cases hlt : k < n * 64
    · have c3 := HS.out.obj (k * 5 + 1) (by omega)
      have hlt' : (k : Int) < (n : Int) * 64 := by omega
      go_wp2_with fail
      go_roundw
      case rel => exact ⟨rfl, k + 1, by omega, by go_num, trivial⟩
      case measure => simp [intOf] <;> omega
    · obtain rfl : k = n * 64 := by omega
      go_wp2_with fail
      go_ret
      exact ⟨rfl, rfl⟩

set_option maxHeartbeats 1000000 in
theorem blocksR (N wb ob n : Nat) (w : World) (h1 : 1 ≤ n) (h2 : n ≤ 24) (hs : RSp w N wb ob n) :
    Calls Tryz.prog 24 #[.pointer (some ⟨N + 4, 0, none⟩)] w fun e w' => e = .returned (.slice none 0 0) ∧ w' = w := by
  obtain ⟨_, _, c2, _, _⟩ := hs.cells
  have HS := Lib.hid hs
  clear hs
  go_enter Tryz.func24, Tryz.ntmps24
  go_wp2_with fail
  go_loopw [3, 4] (fun d c wr => d = .slice none 0 0 ∧ ∃ k : Nat, k ≤ n * 64 ∧ c = .int .i64 k ∧ wr = w) (fun _ c _ => n * 64 - (intOf c).toNat)
  case atStart => exact ⟨rfl, 0, by omega, rfl, rfl⟩
  case round =>
    obtain ⟨rfl, k, hk, rfl, rfl⟩ := hrel
    by_cases hlt : k < n * 64
    · have c3 := HS.out.obj (k * 5 + 1) (by omega)
      have hlt' : (k : Int) < (n : Int) * 64 := by omega
      go_wp2_with fail
      go_roundw
      case rel => exact ⟨rfl, k + 1, by omega, by go_num, trivial⟩
      case measure => simp [intOf] <;> omega
    · obtain rfl : k = n * 64 := by omega
      go_wp2_with fail
      go_ret
      exact ⟨rfl, rfl⟩

set_option maxHeartbeats 1000000 in
theorem nextR (c : Int) (N wb ob n : Nat) (w : World) (h1 : 1 ≤ n) (h2 : n ≤ 24) (hs : RSp w N wb ob n) :
    Calls Tryz.prog 72 #[.pointer (some ⟨N + 4, 0, none⟩), .int .i64 c, .int .i64 0] w fun e w' => e = .returned (.int .i64 (-1)) ∧ w' = w := by
  obtain ⟨_, c1, _, _, c4⟩ := hs.cells
  have HS := Lib.hid hs
  clear hs
  go_enter Tryz.func72, Tryz.ntmps72
  go_wp2_with fail
  go_loopw [7] (fun c wr => ∃ k : Nat, k ≤ n ∧ c = .int .i64 k ∧ wr = w) (fun c _ => n - (intOf c).toNat)
  case atStart => exact ⟨0, by omega, rfl, rfl⟩
  case round =>
    obtain ⟨k, hk, rfl, rfl⟩ := hrel
    by_cases hlt : k < n
    · have c3 := HS.out.page (k * 3) (by omega)
      have hlt' : (k : Int) < (n : Int) := by omega
      go_wp2_with fail
      go_roundw
      case rel => exact ⟨k + 1, by omega, by go_num, trivial⟩
      case measure => simp [intOf] <;> omega
    · obtain rfl : k = n := by omega
      go_wp2_with fail
      go_ret
      exact ⟨rfl, rfl⟩

set_option maxHeartbeats 2000000 in
theorem wrongR (N wb ob n : Nat) (w : World) (h1 : 1 ≤ n) (h2 : n ≤ 24) (hs : RSp w N wb ob n) :
    Calls Tryz.prog 27 #[.pointer (some ⟨N + 4, 0, none⟩)] w fun e w' => e = .returned (.int .i64 (-1)) ∧ w' = w := by
  obtain ⟨_, _, c2, _, _⟩ := hs.cells
  have HS := Lib.hid hs
  clear hs
  go_enter Tryz.func27, Tryz.ntmps27
  go_wp2_with fail
  go_loopw [3, 4] (fun d c wr => d = .int .i64 (-1) ∧ ∃ k : Int, -1 ≤ k ∧ k < n * 64 ∧ c = .int .i64 k ∧ wr = w) (fun _ c _ => (intOf c + 1).toNat)
  case atStart => exact ⟨rfl, (n : Int) * 64 - 1, by omega, by omega, by go_num, rfl⟩
  case round =>
    obtain ⟨rfl, k, hk, hk', rfl, rfl⟩ := hrel
    by_cases hlt : 0 ≤ k
    · obtain ⟨k, rfl⟩ := Int.eq_ofNat_of_zero_le hlt
      have c3 := HS.out.obj (k * 5 + 1) (by omega)
      go_wp2_with fail
      go_roundw
      case rel => exact ⟨rfl, (k : Int) - 1, by omega, by omega, by go_num, trivial⟩
      case measure => simp [intOf] <;> omega
    · obtain rfl : k = -1 := by omega
      go_wp2_with fail
      clear c2
      refine wp_loop_rounds 9 ?_
      iterate 8
        rw [rounds_succ]
        go_wp2_with (go_at_call 72; refine (nextR _ _ _ _ _ _ h1 h2 HS.out).mono ?_; rintro e w1 ⟨rfl, rfl⟩)
        refine wp_loop_rounds 1 ?_
        rw [rounds_succ]
        go_wp2_with fail
      rw [rounds_succ]
      go_wp2_with fail
      go_ret
      exact ⟨rfl, rfl⟩
end Go.Proofs.YtkkkfaifkmmhpaaGreatDoor
