/- package pages, of one page: TakeClass; space.cut. -/
import Derived.Test.YtkkkfaifkmmhpaaGreatDoorE
namespace Go.Proofs.YtkkkfaifkmmhpaaGreatDoor
open Go.RowKit
set_option maxRecDepth 100000

abbrev tblC (pb : Nat) (f : Int) : Array Value := #[.slice (some ⟨pb, 0, none⟩) 1 1, .int .i64 0, .int .i64 f]

set_option maxHeartbeats 400000 in
theorem isFree1 (tb pb : Nat) (w : World) (ht : Blk w tb (tblC pb 1) 125) (hp : Blk w pb #[.int .i64 0, .int .i64 0, .int .i64 0] 139) :
    Calls Tryz.prog 95 #[.pointer (some ⟨tb, 0, none⟩), .int .i64 0] w fun e w' => e = .returned (.bool true) ∧ w' = w := by
  have c0 : w.cell? ⟨tb, 0, none⟩ = some (.slice (some ⟨pb, 0, none⟩) 1 1) := by rw [ht.cell]; rfl
  have d0 : w.cell? ⟨pb, 0, none⟩ = some (.int .i64 0) := by rw [hp.cell]; rfl
  have d1 : w.cell? ⟨pb, 1, none⟩ = some (.int .i64 0) := by rw [hp.cell]; rfl
  have d2 : w.cell? ⟨pb, 2, none⟩ = some (.int .i64 0) := by rw [hp.cell]; rfl
  clear ht hp
  go_enter Tryz.func95, Tryz.ntmps95
  go_wp2
  go_ret
  exact ⟨rfl, rfl⟩

set_option maxHeartbeats 400000 in
theorem rise1 (tb pb : Nat) (w : World) (ht : Blk w tb (tblC pb 1) 125) (hp : Blk w pb #[.int .i64 0, .int .i64 0, .int .i64 0] 139) :
    Calls Tryz.prog 94 #[.pointer (some ⟨tb, 0, none⟩)] w fun e w' => e = .returned (.tuple #[]) ∧ ∃ n, w' = w.drewN n := by
  have c0 : w.cell? ⟨tb, 0, none⟩ = some (.slice (some ⟨pb, 0, none⟩) 1 1) := by rw [ht.cell]; rfl
  have c1 : w.cell? ⟨tb, 1, none⟩ = some (.int .i64 0) := by rw [ht.cell]; rfl
  have HT := Lib.hid ht
  have HP := Lib.hid hp
  clear ht hp
  go_enter Tryz.func94, Tryz.ntmps94
  go_wp2_with fail
  refine wp_loop_rounds 1 ?_
  rw [rounds_succ]
  go_wp2_with fail
  go_quiet ((go_at_call 95; exact Calls.quiet_of_same (isFree1 _ _ _ HT.out HP.out)))
  go_wp2_with fail
  go_end0
  exact ⟨rfl, _, rfl⟩
  
set_option maxHeartbeats 400000 in
theorem takeClass1 (tb pb : Nat) (w : World) (ht : Blk w tb (tblC pb 1) 125) (hp : Blk w pb #[.int .i64 0, .int .i64 0, .int .i64 0] 139) (hne : tb ≠ pb) :
    Calls Tryz.prog 57 #[.pointer (some ⟨tb, 0, none⟩), .int .i64 1] w fun e w' => e = .returned (.tuple #[.int .i64 0, .int .i64 0]) ∧ Only [tb, pb] w w' := by
  have HT := Lib.hid ht
  have HP := Lib.hid hp
  clear ht hp
  have hne' : pb ≠ tb := fun h => hne h.symm
  go_enter Tryz.func57, Tryz.ntmps57
  go_wp2_with (first
    | (go_at_call 86; refine (words1 _).mono ?_; rintro e w1 ⟨rfl, hB⟩; (have ht := HT.out.below HT.out.lt hB); (have hp := HP.out.below HP.out.lt hB); (have HT1 := Lib.hid ht); (have HP1 := Lib.hid hp); (have HB := Lib.hid hB); clear hB ht hp)
    | (go_at_call 94; refine (rise1 tb pb _ HT1.out HP1.out).mono ?_; rintro e w2 ⟨rfl, n2, rfl⟩))
  have c0 : w1.cell? ⟨tb, 0, none⟩ = some (.slice (some ⟨pb, 0, none⟩) 1 1) := by rw [HT1.out.cell]; rfl
  have c1 : w1.cell? ⟨tb, 1, none⟩ = some (.int .i64 0) := by rw [HT1.out.cell]; rfl
  have c2 : w1.cell? ⟨tb, 2, none⟩ = some (.int .i64 1) := by rw [HT1.out.cell]; rfl
  have d0 : w1.cell? ⟨pb, 0, none⟩ = some (.int .i64 0) := by rw [HP1.out.cell]; rfl
  have d1 : w1.cell? ⟨pb, 1, none⟩ = some (.int .i64 0) := by rw [HP1.out.cell]; rfl
  have d2 : w1.cell? ⟨pb, 2, none⟩ = some (.int .i64 0) := by rw [HP1.out.cell]; rfl
  have f2 : w1.frozen? ⟨tb, 2, none⟩ = false := HT1.out.free _
  have g0 : w1.frozen? ⟨pb, 0, none⟩ = false := HP1.out.free _
  have g1 : w1.frozen? ⟨pb, 1, none⟩ = false := HP1.out.free _
  have g2 : w1.frozen? ⟨pb, 2, none⟩ = false := HP1.out.free _
  go_quiet (fail)
  go_wp2_with fail
  go_region
  go_wp2_with fail
  go_ret2
  refine ⟨rfl, ?_⟩
  have h0 : Only [tb, pb] w w1 := Only.of_below HB.out
  repeat first
    | exact h0
    | refine Only.setCell ?_ (by simp) _
    | refine Only.drew ?_
    | refine Only.drewN ?_ _
end Go.Proofs.YtkkkfaifkmmhpaaGreatDoor
