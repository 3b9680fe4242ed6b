/- pair.looked at kind 19. -/
import Derived.Test.YtkkkfaifkmmhpaaGreatDoorKG
namespace Go.Proofs.YtkkkfaifkmmhpaaGreatDoor
open Go.RowKit
set_option maxRecDepth 100000

set_option maxHeartbeats 400000 in
theorem useS2 (N n : Nat) (w : World) (h1 : 1 ≤ n) (h2 : n ≤ 24) (hs : Sp w N n) :
    Calls Tryz.prog 28 #[.pointer (some ⟨N + 5, 0, none⟩)] w fun e w' => e = .returned (.float .f64 0) ∧ Dr w w' := by
  obtain ⟨c0, _, _, _, c7, c8⟩ := hs.cells
  clear hs
  go_enter Tryz.func28, Tryz.ntmps28
  go_wp2
  have q := quo0 n h1 h2
  go_quiet (fail)
  clear q
  go_wp2
  go_ret
  exact ⟨rfl, (Dr.refl _).drewN _⟩

set_option maxHeartbeats 4000000 in
theorem looked19 (N R rb ob n p : Nat) (w : World) (h1 : 1 ≤ n) (h2 : n ≤ 24) (hs : Sp w N n) (hr : RSp w R rb ob n) (c0 : w.cell? ⟨p, 0, none⟩ = some (.pointer (some ⟨N + 5, 0, none⟩))) (c1 : w.cell? ⟨p, 1, none⟩ = some (.pointer (some ⟨R + 4, 0, none⟩))) :
    Calls Tryz.prog 6 #[.pointer (some ⟨p, 0, none⟩), opV 19] w fun e w' => e = .returned (.bool true) ∧ Only [] w w' := by
  have HS := Lib.hid hs
  have HR := Lib.hid hr
  have C0 := Lib.hid c0
  have C1 := Lib.hid c1
  clear hs hr
  go_enter Tryz.func6, Tryz.ntmps6
  go_wp2_with fail
  have ou : Only [] w (w.alloc (.cells #[.int .i64 0, .int .i64 19, .int .i64 0, .int .i64 0, .int .i64 0, .slice none 0 0] 29)) := (Only.refl _ _).alloc _
  generalize w.alloc (.cells _ 29) = u at ou ⊢
  have e0 := ou.cell C0.out (by simp)
  have e1 := ou.cell C1.out (by simp)
  have SU := Lib.hid (HS.out.only ou (by simp))
  have RU := Lib.hid (HR.out.only ou (by simp))
  have e2 := RU.out.cells.1
  have OU := Lib.hid ou
  clear ou c0 c1
  have q := quo0 n h1 h2
  go_quiet (first
    | (go_at_call 9; exact Calls.quiet_of_same (wordsS N n _ (SU.out.only (S := []) ((Only.refl _ _).drewN _) (by simp))))
    | (go_at_call 28; exact Calls.quiet_of (useS2 N n _ h1 h2 (SU.out.only (S := []) ((Only.refl _ _).drewN _) (by simp))))
    | (go_at_call 29; exact Calls.quiet_of_same (roomR R rb ob n _ h1 h2 (RU.out.only (S := []) ((Only.refl _ _).drewN _) (by simp)))))
  clear q
  go_wp2_with fail
  go_ret
  exact ⟨rfl, OU.out.drewN _⟩
end Go.Proofs.YtkkkfaifkmmhpaaGreatDoor
