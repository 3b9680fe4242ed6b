/- pair.looked at kinds 18 and 19. -/
import Derived.Test.YtkkkfaifkmmhpaaGreatDoorKF
namespace Go.Proofs.YtkkkfaifkmmhpaaGreatDoor
open Go.RowKit
set_option maxRecDepth 100000

/-- The operation of a kind. -/
abbrev opV (k : Int) : Value := .agg #[.int .i64 0, .int .i64 k, .int .i64 0, .int .i64 0, .int .i64 0, .slice none 0 0]

theorem keep3 {u x w1 : World} {a1 a2 : Addr} {v1 v2 : Value} (h : Only [] u x ∧ x.cell? a1 = some v1 ∧ x.cell? a2 = some v2) (ho : Only [] x w1) : Only [] u w1 ∧ w1.cell? a1 = some v1 ∧ w1.cell? a2 = some v2 :=
  ⟨h.1.trans ho, ho.cell h.2.1 (by simp), ho.cell h.2.2 (by simp)⟩
theorem call26 {N n : Nat} {u w : World} {R : Prop} (h1 : 1 ≤ n) (h2 : n ≤ 24) (hu : Sp u N n) (hS : Only [] u w ∧ R) : Calls Tryz.prog 26 #[.pointer (some ⟨N + 5, 0, none⟩)] w fun e w' => e = .returned (.int .i64 (-1)) ∧ Only [] w w' :=
  wrongS N n w h1 h2 (hu.only hS.1 (by simp))
theorem call27 {N rb ob n : Nat} {u w : World} {R : Prop} (h1 : 1 ≤ n) (h2 : n ≤ 24) (hu : RSp u N rb ob n) (hS : Only [] u w ∧ R) : Calls Tryz.prog 27 #[.pointer (some ⟨N + 4, 0, none⟩)] w fun e w' => e = .returned (.int .i64 (-1)) ∧ Only [] w w' :=
  (wrongR N rb ob n w h1 h2 (hu.only hS.1 (by simp))).mono fun _ _ ⟨h, k⟩ => ⟨h, k ▸ Only.refl _ _⟩

set_option maxHeartbeats 4000000 in
theorem looked18 (N R rb ob n p : Nat) (w : World) (h1 : 1 ≤ n) (h2 : n ≤ 24) (hs : Sp w N n) (hr : RSp w R rb ob n) (c0 : w.cell? ⟨p, 0, none⟩ = some (.pointer (some ⟨N + 5, 0, none⟩))) (c1 : w.cell? ⟨p, 1, none⟩ = some (.pointer (some ⟨R + 4, 0, none⟩))) :
    Calls Tryz.prog 6 #[.pointer (some ⟨p, 0, none⟩), opV 18] w fun e w' => e = .returned (.bool true) ∧ Only [] w w' := by
  have HS := Lib.hid hs
  have HR := Lib.hid hr
  have C0 := Lib.hid c0
  have C1 := Lib.hid c1
  clear hs hr
  go_enter Tryz.func6, Tryz.ntmps6
  go_wp2_with fail
  have ou : Only [] w (w.alloc (.cells #[.int .i64 0, .int .i64 18, .int .i64 0, .int .i64 0, .int .i64 0, .slice none 0 0] 29)) := (Only.refl _ _).alloc _
  generalize w.alloc (.cells _ 29) = u at ou ⊢
  have e0 := ou.cell C0.out (by simp)
  have e1 := ou.cell C1.out (by simp)
  have SU := Lib.hid (HS.out.only ou (by simp))
  have RU := Lib.hid (HR.out.only ou (by simp))
  have OU := Lib.hid ou
  clear ou
  have S0 : Only [] u u.drew ∧ u.drew.cell? ⟨p, 0, none⟩ = some (.pointer (some ⟨N + 5, 0, none⟩)) ∧ u.drew.cell? ⟨p, 1, none⟩ = some (.pointer (some ⟨R + 4, 0, none⟩)) := ⟨(Only.refl _ _).drew, e0, e1⟩
  go_region_held3 (fun w' => Only [] u w' ∧ w'.cell? ⟨p, 0, none⟩ = some (.pointer (some ⟨N + 5, 0, none⟩)) ∧ w'.cell? ⟨p, 1, none⟩ = some (.pointer (some ⟨R + 4, 0, none⟩)))
    (first
      | with_reducible exact S0
      | with_reducible exact keep3 (by assumption) O26.out
      | with_reducible exact keep3 (by assumption) O27.out)
    (first
      | (go_at_call 26; refine (call26 h1 h2 SU.out (by assumption)).mono ?_; rintro e x1 ⟨rfl, ho⟩; have O26 := Lib.hid ho; clear ho)
      | (go_at_call 27; refine (call27 h1 h2 RU.out (by assumption)).mono ?_; rintro e x2 ⟨rfl, ho⟩; have O27 := Lib.hid ho; clear ho))
  all_goals
    go_wp2_with fail
    go_ret
    refine ⟨rfl, ?_⟩
    first
      | exact OU.out.trans (((Only.refl _ _).drew.trans O26.out).trans O27.out)
      | exact OU.out.trans (((Only.refl _ _).drew.trans O27.out).trans O26.out)
end Go.Proofs.YtkkkfaifkmmhpaaGreatDoor
