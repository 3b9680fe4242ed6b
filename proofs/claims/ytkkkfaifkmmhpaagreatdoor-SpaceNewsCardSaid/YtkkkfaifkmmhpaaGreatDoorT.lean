/- keep: sameInts, samePages, sameBlocks, many. -/
import Derived.Test.YtkkkfaifkmmhpaaGreatDoorS
namespace Go.Proofs.YtkkkfaifkmmhpaaGreatDoor
open Go.RowKit
set_option maxRecDepth 100000

/-- Answers have been drawn, and nothing else. -/
def Dr (w w' : World) : Prop := ∃ m, w' = w.drewN m
theorem Dr.refl (w : World) : Dr w w := ⟨0, rfl⟩
theorem Dr.drewN {w w' : World} (h : Dr w w') (n : Nat) : Dr w (w'.drewN n) := by
  obtain ⟨m, rfl⟩ := h
  exact ⟨m + n, by simp [World.drewN, Nat.add_assoc]⟩
theorem Dr.only {w w' : World} (h : Dr w w') : Only [] w w' := by
  obtain ⟨m, rfl⟩ := h
  exact (Only.refl _ _).drewN _

set_option maxHeartbeats 1000000 in
theorem sameI (g1 c1 g2 c2 n : Nat) (w : World) (hn : n ≤ 2000) (r1 : Row w 3 1 el0 (.slice (some ⟨g1, 0, none⟩) n c1) n) (r2 : Row w 3 1 el0 (.slice (some ⟨g2, 0, none⟩) n c2) n) :
    Calls Tryz.prog 75 #[.slice (some ⟨g1, 0, none⟩) n c1, .slice (some ⟨g2, 0, none⟩) n c2] w fun e w' => e = .returned (.bool true) ∧ Dr w w' := by
  have R1 := Lib.hid r1
  have R2 := Lib.hid r2
  clear r1 r2
  go_enter Tryz.func75, Tryz.ntmps75
  go_wp2_with fail
  go_loopw [5] (fun c wr => ∃ k : Nat, k ≤ n ∧ c = .int .i64 k ∧ Dr w wr) (fun c _ => n - (intOf c).toNat)
  case atStart => exact ⟨0, by omega, rfl, Dr.refl _⟩
  case round =>
    obtain ⟨k, hk, rfl, ho⟩ := hrel
    by_cases hlt : k < n
    · have a1 := (R1.out.only ho.only (by simp)).cells (g := g1) rfl k (by omega)
      have a2 := (R2.out.only ho.only (by simp)).cells (g := g2) rfl k (by omega)
      have hlt' : (k : Int) < (n : Int) := by omega
      have O := Lib.hid ho
      clear ho
      go_wp2_with fail
      go_quiet (fail)
      go_wp2_with fail
      go_roundw
      case rel => exact ⟨k + 1, by omega, by go_num, O.out.drewN _⟩
      case measure => simp [intOf] <;> omega
    · obtain rfl : k = n := by omega
      have O := Lib.hid ho
      clear ho
      go_wp2_with fail
      go_ret
      exact ⟨rfl, O.out⟩

set_option maxHeartbeats 1000000 in
theorem sameP (g1 c1 g2 c2 n : Nat) (w : World) (hn : n ≤ 2000) (r1 : Row w 139 3 el0 (.slice (some ⟨g1, 0, none⟩) n c1) n) (r2 : Row w 139 3 el0 (.slice (some ⟨g2, 0, none⟩) n c2) n) :
    Calls Tryz.prog 76 #[.slice (some ⟨g1, 0, none⟩) n c1, .slice (some ⟨g2, 0, none⟩) n c2] w fun e w' => e = .returned (.bool true) ∧ Dr w w' := by
  have R1 := Lib.hid r1
  have R2 := Lib.hid r2
  clear r1 r2
  go_enter Tryz.func76, Tryz.ntmps76
  go_wp2_with fail
  go_loopw [5] (fun c wr => ∃ k : Nat, k ≤ n ∧ c = .int .i64 k ∧ Dr w wr) (fun c _ => n - (intOf c).toNat)
  case atStart => exact ⟨0, by omega, rfl, Dr.refl _⟩
  case round =>
    obtain ⟨k, hk, rfl, ho⟩ := hrel
    by_cases hlt : k < n
    · have a1 := (R1.out.only ho.only (by simp)).cells (g := g1) rfl (k * 3) (by omega)
      have a2 := (R2.out.only ho.only (by simp)).cells (g := g2) rfl (k * 3) (by omega)
      have b1 := (R1.out.only ho.only (by simp)).cells (g := g1) rfl (k * 3 + 1) (by omega)
      have b2 := (R2.out.only ho.only (by simp)).cells (g := g2) rfl (k * 3 + 1) (by omega)
      have d1 := (R1.out.only ho.only (by simp)).cells (g := g1) rfl (k * 3 + 2) (by omega)
      have d2 := (R2.out.only ho.only (by simp)).cells (g := g2) rfl (k * 3 + 2) (by omega)
      have hlt' : (k : Int) < (n : Int) := by omega
      have O := Lib.hid ho
      clear ho
      go_wp2_with fail
      go_quiet (fail)
      go_wp2_with fail
      go_roundw
      case rel => exact ⟨k + 1, by omega, by go_num, O.out.drewN _⟩
      case measure => simp [intOf] <;> omega
    · obtain rfl : k = n := by omega
      have O := Lib.hid ho
      clear ho
      go_wp2_with fail
      go_ret
      exact ⟨rfl, O.out⟩

set_option maxHeartbeats 400000 in
theorem sameB (w : World) : Calls Tryz.prog 62 #[.slice none 0 0, .slice none 0 0] w fun e w' => e = .returned (.bool true) ∧ Dr w w' := by
  go_enter Tryz.func62, Tryz.ntmps62
  go_wp2_with fail
  refine wp_loop_rounds 1 ?_
  rw [rounds_succ]
  go_wp2_with fail
  go_ret
  exact ⟨rfl, Dr.refl _⟩

set_option maxHeartbeats 400000 in
theorem manyF (p l1 l2 k1 k2 : Nat) (v1 v2 : Option Addr) (w : World) (h : l1 + l2 ≤ 30) (c0 : w.cell? ⟨p, 2, none⟩ = some (.slice v1 l1 k1)) (c4 : w.cell? ⟨p, 6, none⟩ = some (.slice v2 l2 k2)) :
    Calls Tryz.prog 63 #[.pointer (some ⟨p, 2, none⟩)] w fun e w' => e = .returned (.bool false) ∧ Dr w w' := by
  have e1 : IntKind.i64.wrap ((l1 : Int) + (l2 : Int)) = (l1 : Int) + (l2 : Int) := IntWalk.i64_in _ (by omega)
  have e2 : ¬ (30 < (l1 : Int) + (l2 : Int)) := by omega
  go_enter Tryz.func63, Tryz.ntmps63
  go_wp2_with fail
  go_quiet (fail)
  clear e1
  go_wp2_with fail
  go_ret
  exact ⟨by simp [e2], (Dr.refl _).drewN _⟩
end Go.Proofs.YtkkkfaifkmmhpaaGreatDoor
