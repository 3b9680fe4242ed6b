/- The small functions that alive comes to: package class, value.Link, header.Make, layout.Fits, layout.Numbered, bitmap.part, math/bits.TrailingZeros64. -/
import Derived.Test.YtkkkfaifkmmhpaaGreatDoorC
namespace Go.Proofs.YtkkkfaifkmmhpaaGreatDoor
open Go.RowKit
set_option maxRecDepth 100000

def wordsV : Value := .agg #[.int .i64 2, .int .i64 4, .int .i64 6, .int .i64 8, .int .i64 12, .int .i64 16, .int .i64 20, .int .i64 32]

set_option maxHeartbeats 400000 in
theorem words_any (w : World) : Calls Tryz.prog 93 #[] w fun e w' => e = .returned (.agg #[.int .i64 2, .int .i64 4, .int .i64 6, .int .i64 8, .int .i64 12, .int .i64 16, .int .i64 20, .int .i64 32]) ∧ Below w.heap.size w w' := by
  go_enter Tryz.func93, Tryz.ntmps93
  go_wp2
  exact bodyPost_ret (by simp [results, Tryz.results93, go_sem]) rfl ⟨rfl, by go_grown⟩

theorem wIdx0 (w : World) : (Instr.index 68 (.agg #[.int .i64 2, .int .i64 4, .int .i64 6, .int .i64 8, .int .i64 12, .int .i64 16, .int .i64 20, .int .i64 32]) (.int .i64 0)).run Tryz.prog w = .ok (.int .i64 2) w := by kernel_rfl
theorem wIdx1 (w : World) : (Instr.index 68 (.agg #[.int .i64 2, .int .i64 4, .int .i64 6, .int .i64 8, .int .i64 12, .int .i64 16, .int .i64 20, .int .i64 32]) (.int .i64 1)).run Tryz.prog w = .ok (.int .i64 4) w := by kernel_rfl

set_option maxHeartbeats 400000 in
theorem of3 (w : World) : Calls Tryz.prog 53 #[.int .i64 3] w fun e w' => e = .returned (.int .i64 1) ∧ Below w.heap.size w w' := by
  go_enter Tryz.func53, Tryz.ntmps53
  go_wp2_with (go_at_call 93; refine (words_any _).mono ?_; rintro e w1 ⟨rfl, hB⟩; (have HB := Lib.hid hB); clear hB)
  have h0 := wIdx0
  have h1 := wIdx1
  go_rounds 3
  go_ret
  exact ⟨rfl, HB.out⟩

set_option maxHeartbeats 400000 in
theorem words1 (w : World) : Calls Tryz.prog 86 #[.int .i64 1] w fun e w' => e = .returned (.int .i64 4) ∧ Below w.heap.size w w' := by
  have h1 := wIdx1
  go_enter Tryz.func86, Tryz.ntmps86
  go_wp2_with (go_at_call 93; refine (words_any _).mono ?_; rintro e w1 ⟨rfl, hB⟩; (have HB := Lib.hid hB); clear hB)
  go_ret
  exact ⟨rfl, HB.out⟩

set_option maxHeartbeats 400000 in
theorem link_any (x : Int) (w : World) (h0 : -1 ≤ x) (h1 : x < 262144) : Calls Tryz.prog 116 #[.int .i64 x] w fun e w' => e = .returned (.int .i64 (Go.bits .or .i64 (x * 8) 4)) ∧ w = w' := by
  go_enter Tryz.func116, Tryz.ntmps116
  go_wp2
  all_goals first | (exfalso; omega) | skip
  go_ret
  exact ⟨rfl, rfl⟩

set_option maxHeartbeats 400000 in
theorem blocks1 (w : World) : Calls Tryz.prog 58 #[.int .i64 1] w fun e w' => e = .returned (.int .i64 16) ∧ Below w.heap.size w w' := by
  go_enter Tryz.func58, Tryz.ntmps58
  go_wp2_with (go_at_call 86; refine (words1 _).mono ?_; rintro e w1 ⟨rfl, hB⟩; (have HB := Lib.hid hB); clear hB)
  go_ret
  exact ⟨rfl, HB.out⟩

set_option maxHeartbeats 400000 in
theorem start1 (i : Int) (w : World) (h0 : 0 ≤ i) (h1 : i < 16) : Calls Tryz.prog 120 #[.int .i64 1, .int .i64 i] w fun e w' => e = .returned (.int .i64 (i * 4)) ∧ Below w.heap.size w w' := by
  go_enter Tryz.func120, Tryz.ntmps120
  go_wp2_with (first
    | (go_at_call 58; refine (blocks1 _).mono ?_; rintro e w1 ⟨rfl, hB⟩; (have HB := Lib.hid hB); clear hB)
    | (go_at_call 86; refine (words1 _).mono ?_; rintro e w2 ⟨rfl, hB2⟩; (have HB2 := Lib.hid hB2); clear hB2))
  go_ret
  exact ⟨rfl, HB.out.trans (HB2.out.mono HB.out.size)⟩

set_option maxHeartbeats 400000 in
theorem pages3 (w : World) : Calls Tryz.prog 55 #[.int .i64 3] w fun e w' => e = .returned (.int .i64 0) ∧ Below w.heap.size w w' := by
  go_enter Tryz.func55, Tryz.ntmps55
  go_wp2_with (first
    | (go_at_call 53; refine (of3 _).mono ?_; rintro e w1 ⟨rfl, hB⟩; (have HB := Lib.hid hB); clear hB))
  go_ret
  exact ⟨rfl, HB.out⟩

set_option maxHeartbeats 400000 in
theorem wide3 (w : World) : Calls Tryz.prog 39 #[.int .i64 3] w fun e w' => e = .returned (.int .i64 4) ∧ Below w.heap.size w w' := by
  go_enter Tryz.func39, Tryz.ntmps39
  go_wp2_with (first
    | (go_at_call 55; refine (pages3 _).mono ?_; rintro e w1 ⟨rfl, hB⟩; (have HB := Lib.hid hB); clear hB)
    | (go_at_call 53; refine (of3 _).mono ?_; rintro e w2 ⟨rfl, hB2⟩; (have HB2 := Lib.hid hB2); clear hB2)
    | (go_at_call 86; refine (words1 _).mono ?_; rintro e w3 ⟨rfl, hB3⟩; (have HB3 := Lib.hid hB3); clear hB3))
  go_ret
  exact ⟨rfl, (HB.out.trans (HB2.out.mono HB.out.size)).trans (HB3.out.mono (Nat.le_trans HB.out.size HB2.out.size))⟩

set_option maxHeartbeats 400000 in
theorem fits13 (w : World) : Calls Tryz.prog 37 #[.int .i64 1, .int .i64 3] w fun e w' => e = .returned (.bool true) ∧ w = w' := by
  go_enter Tryz.func37, Tryz.ntmps37
  go_wp2
  go_ret
  exact ⟨rfl, rfl⟩

set_option maxHeartbeats 400000 in
theorem numbered1 (w : World) : Calls Tryz.prog 41 #[.int .i64 1] w fun e w' => e = .returned (.bool true) ∧ w = w' := by
  go_enter Tryz.func41, Tryz.ntmps41
  go_wp2
  go_ret
  exact ⟨rfl, rfl⟩

def SomeInt (w : World) (e : Ending) (w' : World) : Prop := ∃ n : Int, e = .returned (.int .i64 n) ∧ w = w'

set_option maxHeartbeats 400000 in
theorem make_any (x : Int) (w : World) (h0 : 0 ≤ x) (h1 : x ≤ 4) : Calls Tryz.prog 40 #[.int .i64 x, .int .i64 1, .int .i64 3] w (SomeInt w) := by
  go_enter Tryz.func40, Tryz.ntmps40
  go_wp2
  go_ret
  exact ⟨_, rfl, rfl⟩

/-- The bits from a to ahead of b. -/
def pt (a b : Nat) : Int := 2 ^ b - 2 ^ a
theorem pt1 : ∀ a, a < 64 → ∀ b, b < 64 → a < b → 0 < a → Go.bits .and .u64 (IntKind.u64.wrap (18446744073709551615 * 2 ^ a)) (IntKind.u64.wrap (IntKind.u64.wrap (2 ^ b) - 1)) = pt a b := by decide +kernel
theorem pt2 : ∀ a, a < 64 → 0 < a → IntKind.u64.wrap (18446744073709551615 * 2 ^ a) = pt a 64 := by decide +kernel
theorem pt3 : ∀ b, b < 64 → 0 < b → Go.bits .and .u64 18446744073709551615 (IntKind.u64.wrap (IntKind.u64.wrap (2 ^ b) - 1)) = pt 0 b := by decide +kernel
theorem pt4 : (18446744073709551615 : Int) = pt 0 64 := by decide +kernel

set_option maxHeartbeats 400000 in
theorem part_any (a b : Nat) (w : World) (h1 : a < b) (h2 : b ≤ 64) : Calls Tryz.prog 118 #[.int .i64 0, .int .i64 (a : Int), .int .i64 (b : Int)] w fun e w' => e = .returned (.int .u64 (pt a b)) ∧ w = w' := by
  go_enter Tryz.func118, Tryz.ntmps118
  go_wp2
  all_goals go_ret
  · refine ⟨congrArg (fun x => Ending.returned (.int .u64 x)) ?_, rfl⟩
    exact pt1 a (by omega) b (by omega) h1 (by omega)
  · refine ⟨congrArg (fun x => Ending.returned (.int .u64 x)) ?_, rfl⟩
    obtain rfl : b = 64 := by omega
    exact pt2 a (by omega) (by omega)
  · refine ⟨congrArg (fun x => Ending.returned (.int .u64 x)) ?_, rfl⟩
    obtain rfl : a = 0 := by omega
    exact pt3 b (by omega) (by omega)
  · refine ⟨congrArg (fun x => Ending.returned (.int .u64 x)) ?_, rfl⟩
    obtain rfl : a = 0 := by omega
    obtain rfl : b = 64 := by omega
    exact pt4

/-- The table of math/bits: what the variable holds. -/
def tabL : List Int := [0, 1, 56, 2, 57, 49, 28, 3, 61, 58, 42, 50, 38, 29, 17, 4, 62, 47, 59, 36, 45, 43, 51, 22, 53, 39, 33, 30, 24, 18, 12, 5, 63, 55, 48, 27, 60, 41, 37, 16, 46, 35, 44, 21, 52, 32, 23, 11, 54, 26, 40, 15, 34, 20, 31, 10, 25, 14, 19, 9, 13, 8, 7, 6]
def Tab (w : World) : Prop := ∀ j, j < 64 → w.cell? ⟨0, j, none⟩ = some (.int .u8 (tabL.getD j 0))

def tzIdx (x : Int) : Int := IntKind.u64.wrap (Go.bits .and .u64 x (IntKind.u64.wrap (-x)) * 285870213051353865) / 288230376151711744
def tz (x : Int) : Int := tabL.getD (tzIdx x).toNat 0
theorem tzIdx_in (x : Int) : 0 ≤ tzIdx x ∧ tzIdx x < 64 := by
  unfold tzIdx
  rw [IntKind.wrap_u64]
  omega
theorem tab_in : ∀ j, j < 64 → 0 ≤ tabL.getD j 0 ∧ tabL.getD j 0 ≤ 63 := by decide +kernel

set_option maxHeartbeats 400000 in
theorem tz_any (x : Int) (w : World) (hT : Tab w) (h0 : 0 < x) : Calls Tryz.prog 119 #[.int .u64 x] w fun e w' => e = .returned (.int .i64 (tz x)) ∧ w = w' := by
  have hi := tzIdx_in x
  have ht := tab_in (tzIdx x).toNat (by omega)
  have hc := hT (tzIdx x).toNat (by omega)
  have hz : (x == 0) = false := by simp; omega
  unfold tz
  generalize tabL.getD (tzIdx x).toNat 0 = t at *
  have h1 := hi.1
  have h2 := hi.2
  unfold tzIdx at h1 h2 hc
  have t0 := ht.1
  have t1 := ht.2
  clear hi hT ht
  go_enter Tryz.func119, Tryz.ntmps119
  go_wp2
  all_goals first | (exfalso; omega) | skip
  go_ret
  exact ⟨rfl, rfl⟩
end Go.Proofs.YtkkkfaifkmmhpaaGreatDoor
