/- space.New where there is none; hearthref8.New; made. -/
import Derived.Test.YtkkkfaifkmmhpaaGreatDoorB
namespace Go.Proofs.YtkkkfaifkmmhpaaGreatDoor
open Go.RowKit
set_option maxRecDepth 100000

set_option maxHeartbeats 400000 in
theorem spaceNew_no (n : Int) (w : World) (h : n < 1 ∨ 4096 < n) :
    Calls Tryz.prog 8 #[.int .i64 n] w fun e w' => e = .returned (.tuple #[.pointer none, .int .i64 1]) ∧ w = w' := by
  go_enter Tryz.func8, Tryz.ntmps8
  go_wp2_with (first
    | (go_at_call 34; refine (pagesNew_no _ _ h).mono ?_; rintro e w' ⟨rfl, rfl⟩))
  go_ret2
  exact ⟨rfl, rfl⟩

set_option maxHeartbeats 400000 in
theorem ref8New_no (n : Int) (w : World) (h : n < 1 ∨ 4096 < n) :
    Calls Tryz.prog 10 #[.int .i64 n] w fun e w' => e = .returned (.tuple #[.pointer none, .int .i64 1]) ∧ w = w' := by
  go_enter Tryz.func10, Tryz.ntmps10
  go_wp2_with (first
    | (go_at_call 36; refine (ref7New_no _ _ h).mono ?_; rintro e w' ⟨rfl, rfl⟩))
  go_ret2
  exact ⟨rfl, rfl⟩

/-- The document's space of n pages, as made: its first block is N. -/
structure RMade (w : World) (N wb ob n : Nat) : Prop where
  size : w.heap.size = N + 5
  two : wb = N + 2 ∧ ob = N + 3 ∨ wb = N + 3 ∧ ob = N + 2
  pg : Blk w N (zPages n) 139
  tb : Blk w (N + 1) #[.slice (some ⟨N, 0, none⟩) n n] 123
  wd : Blk w wb (zWords (n * 64)) 3
  objs : Blk w ob (zObjs (n * 64)) 91
  sp : Blk w (N + 4) #[.slice (some ⟨wb, 0, none⟩) (n * 64) (n * 64), .pointer (some ⟨N + 1, 0, none⟩), .slice (some ⟨ob, 0, none⟩) (n * 64) (n * 64), .int .i64 0] 63

set_option maxHeartbeats 400000 in
theorem ref8New_ok (n : Nat) (w : World) (h1 : 1 ≤ n) (h2 : n ≤ 4096) :
    Calls Tryz.prog 10 #[.int .i64 (n : Int)] w fun e w' => e = .returned (.tuple #[.pointer (some ⟨w.heap.size + 4, 0, none⟩), .int .i64 0]) ∧
      (∃ wb ob, RMade w' w.heap.size wb ob n) ∧ Below w.heap.size w w' := by
  obtain ⟨i, hi, hz, hs, hb⟩ := info_parts Tryz.info3
  have hm := fun u => run_make (P := Tryz.prog) u 27 3 i _ Tryz.underlying27 hi hz .i64 .i64 ((n : Int) * 64) ((n : Int) * 64) (by omega) (by omega) (by rw [hb]; omega) (by omega)
  have e : ((n : Int) * 64).toNat = n * 64 := by omega
  rw [hs, e] at hm
  clear hi hz hs hb
  obtain ⟨i', hi, hz, hs, hb⟩ := info_parts Tryz.info91
  have hm' := fun u => run_make (P := Tryz.prog) u 59 91 i' _ Tryz.underlying59 hi hz .i64 .i64 ((n : Int) * 64) ((n : Int) * 64) (by omega) (by omega) (by rw [hb]; omega) (by omega)
  rw [hs, e] at hm'
  clear hi hz hs hb e
  go_enter Tryz.func10, Tryz.ntmps10
  go_wp2_with (first
    | (go_at_call 36; refine (ref7New_ok _ _ (by omega) (by omega)).mono ?_; rintro e w' ⟨rfl, rfl⟩))
  go_region
  all_goals
    go_wp2_with fail
    go_ret2
  · refine ⟨rfl, ⟨w.heap.size + 2, w.heap.size + 3, ?_⟩, by go_grown⟩
    constructor
    case size => simp
    case two => exact .inl ⟨rfl, rfl⟩
    all_goals
      refine Blk.drew ?_
      repeat first
        | exact Blk.new _ _ (by first | omega | (simp only [World.size_alloc]; done) | (simp only [World.size_alloc]; omega))
        | refine Blk.alloc ?_ _
  · refine ⟨rfl, ⟨w.heap.size + 3, w.heap.size + 2, ?_⟩, by go_grown⟩
    constructor
    case size => simp
    case two => exact .inr ⟨rfl, rfl⟩
    all_goals
      refine Blk.drew ?_
      repeat first
        | exact Blk.new _ _ (by first | omega | (simp only [World.size_alloc]; done) | (simp only [World.size_alloc]; omega))
        | refine Blk.alloc ?_ _
/-- The program's space of n pages as made, in a world that may have more. -/
structure Sp (w : World) (N n : Nat) : Prop where
  pg : Blk w N (zPages n) 139
  tb : Blk w (N + 1) #[.slice (some ⟨N, 0, none⟩) n n, .int .i64 0, .int .i64 (n : Int)] 125
  wd : Blk w (N + 2) (zWords (n * 64)) 3
  sh : w.heap[N + 3]? = some (.map #[] 0)
  pl : w.heap[N + 4]? = some (.map #[] 0)
  sp : Blk w (N + 5) (spc (.slice (some ⟨N + 2, 0, none⟩) (n * 64) (n * 64)) (.pointer (some ⟨N + 1, 0, none⟩)) (.pointer (some ⟨N + 7, 0, none⟩))
    (fun j => .pointer (some ⟨N + 9 + 2 * j, 0, none⟩)) (.map (some (N + 3))) (.map (some (N + 4))) 0 0) 80
  tr : Blk w (N + 6) (zRows n) 132
  tm : Blk w (N + 7) #[.int .i64 ((n : Int) * 64), .slice (some ⟨N + 6, 0, none⟩) n n] 128
  fr : ∀ j, j < 8 → Blk w (N + 8 + 2 * j) (zRows n) 132
  fm : ∀ j, j < 8 → Blk w (N + 9 + 2 * j) #[.int .i64 ((n : Int) * 64), .slice (some ⟨N + 8 + 2 * j, 0, none⟩) n n] 128

theorem Made.toSp {w : World} {N n : Nat} (h : Made w N n 8) : Sp w N n :=
  ⟨h.pg, h.tb, h.wd, h.sh, h.pl, h.sp, h.tr, h.tm, h.fr, h.fm⟩

theorem Blk.below {w w' : World} {B b : Nat} {c : Array Value} {t : TypeId} (h : Blk w b c t) (hb : b < B) (hB : Below B w w') : Blk w' b c t := by
  unfold Blk at *; rw [hB.block b hb]; exact h

theorem Sp.below {w w' : World} {B N n : Nat} (h : Sp w N n) (hb : N + 24 ≤ B) (hB : Below B w w') : Sp w' N n :=
  ⟨h.pg.below (by omega) hB, h.tb.below (by omega) hB, h.wd.below (by omega) hB, by rw [hB.block _ (by omega)]; exact h.sh, by rw [hB.block _ (by omega)]; exact h.pl,
    h.sp.below (by omega) hB, h.tr.below (by omega) hB, h.tm.below (by omega) hB, fun j hj => (h.fr j hj).below (by omega) hB, fun j hj => (h.fm j hj).below (by omega) hB⟩

/-- The document's space, likewise. -/
structure RSp (w : World) (N wb ob n : Nat) : Prop where
  two : wb = N + 2 ∧ ob = N + 3 ∨ wb = N + 3 ∧ ob = N + 2
  pg : Blk w N (zPages n) 139
  tb : Blk w (N + 1) #[.slice (some ⟨N, 0, none⟩) n n] 123
  wd : Blk w wb (zWords (n * 64)) 3
  objs : Blk w ob (zObjs (n * 64)) 91
  sp : Blk w (N + 4) #[.slice (some ⟨wb, 0, none⟩) (n * 64) (n * 64), .pointer (some ⟨N + 1, 0, none⟩), .slice (some ⟨ob, 0, none⟩) (n * 64) (n * 64), .int .i64 0] 63

theorem RMade.toRSp {w : World} {N wb ob n : Nat} (h : RMade w N wb ob n) : RSp w N wb ob n := ⟨h.two, h.pg, h.tb, h.wd, h.objs, h.sp⟩
theorem RSp.below {w w' : World} {B N wb ob n : Nat} (h : RSp w N wb ob n) (hb : N + 5 ≤ B) (hB : Below B w w') : RSp w' N wb ob n := by
  have := h.two
  exact ⟨h.two, h.pg.below (by omega) hB, h.tb.below (by omega) hB, h.wd.below (by omega) hB, h.objs.below (by omega) hB, h.sp.below (by omega) hB⟩

abbrev nilS : Value := .slice none 0 0
/-- The pair's cells: the two spaces, and what is kept. -/
def pairC (s r : Nat) (k : Array Value) : Array Value := #[.pointer (some ⟨s, 0, none⟩), .pointer (some ⟨r, 0, none⟩)] ++ k

/-- What made leaves: the two spaces and the pair. -/
def MadePair (n B : Nat) (w' : World) (p : Nat) : Prop :=
  ∃ N R wb ob, B ≤ N ∧ N + 24 ≤ R ∧ R + 5 ≤ p ∧ p < w'.heap.size ∧ Sp w' N n ∧ RSp w' R wb ob n ∧
    Blk w' p (pairC (N + 5) (R + 4) #[nilS, nilS, nilS, nilS, nilS, nilS, nilS, nilS, nilS, nilS, nilS, nilS]) 45

def MadeTold (n : Nat) (w : World) (e : Ending) (w' : World) : Prop :=
  ∃ p, e = .returned (.tuple #[.pointer (some ⟨p, 0, none⟩), .bool true]) ∧ MadePair n w.heap.size w' p ∧ Below w.heap.size w w'

set_option maxHeartbeats 400000 in
theorem made_no (n : Int) (w : World) (h : n < 1 ∨ 4096 < n) :
    Calls Tryz.prog 4 #[.int .i64 n] w fun e w' => e = .returned (.tuple #[.pointer none, .bool true]) ∧ w = w' := by
  go_enter Tryz.func4, Tryz.ntmps4
  go_wp2_with (first
    | (go_at_call 8; refine (spaceNew_no _ _ h).mono ?_; rintro e w' ⟨rfl, rfl⟩)
    | (go_at_call 10; refine (ref8New_no _ _ h).mono ?_; rintro e w' ⟨rfl, rfl⟩))
  all_goals first | (exfalso; omega) | (go_ret2; exact ⟨rfl, rfl⟩)

set_option maxHeartbeats 400000 in
theorem made_big (n : Nat) (w : World) (h1 : 24 < n) (h2 : n ≤ 4096) :
    Calls Tryz.prog 4 #[.int .i64 (n : Int)] w fun e w' => e = .returned (.tuple #[.pointer none, .bool true]) ∧ Below w.heap.size w w' := by
  go_enter Tryz.func4, Tryz.ntmps4
  go_wp2_with (first
    | (go_at_call 8; refine (spaceNew_ok _ _ (by omega) (by omega)).mono ?_; rintro e w1 ⟨rfl, hM, hB⟩; (have c0 : w1.cell? ⟨w.heap.size + 5, 0, none⟩ = some (.slice (some ⟨w.heap.size + 2, 0, none⟩) (n * 64) (n * 64)) := by (rw [hM.sp.cell]; simp [spc])); (have HM := Lib.hid hM); (have HB := Lib.hid hB); clear hM hB)
    | go_in)
  go_ret2
  exact ⟨by simp [Int.mul_comm], HB.out⟩

set_option maxHeartbeats 400000 in
theorem made_ok (n : Nat) (w : World) (h1 : 1 ≤ n) (h2 : n ≤ 24) :
    Calls Tryz.prog 4 #[.int .i64 (n : Int)] w (MadeTold n w) := by
  go_enter Tryz.func4, Tryz.ntmps4
  go_wp2_with (first
    | (go_at_call 8; refine (spaceNew_ok _ _ (by omega) (by omega)).mono ?_; rintro e w1 ⟨rfl, hM, hB⟩; (have HM := Lib.hid hM); (have HB := Lib.hid hB); clear hM hB)
    | (go_at_call 10; refine (ref8New_ok _ _ (by omega) (by omega)).mono ?_; rintro e w2 ⟨rfl, hR, hB2⟩; (have HR := Lib.hid hR); (have HB2 := Lib.hid hB2); clear hR hB2))
  all_goals first | (exfalso; omega) | skip
  go_ret2
  have hM := HM.out
  obtain ⟨wb, ob, hR⟩ := HR.out
  have hs := hM.size
  have hs2 := hR.size
  have hB := HB.out
  have hB2 := HB2.out
  refine ⟨w2.heap.size, rfl, ⟨w.heap.size, w1.heap.size, wb, ob, Nat.le_refl _, by omega, by omega, by simp, ?_, ?_, ?_⟩, (hB.trans (hB2.mono (by omega))).alloc (by omega) _⟩
  · exact (hM.toSp.below (by omega) hB2).below (B := w2.heap.size) (by omega) ((Below.refl _ _).alloc (by omega) _)
  · exact hR.toRSp.below (B := w2.heap.size) (by omega) ((Below.refl _ _).alloc (by omega) _)
  · exact Blk.new _ _ rfl
end Go.Proofs.YtkkkfaifkmmhpaaGreatDoor
