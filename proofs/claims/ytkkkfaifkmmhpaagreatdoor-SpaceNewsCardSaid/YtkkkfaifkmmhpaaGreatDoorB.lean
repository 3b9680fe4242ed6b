/- space.New. -/
import Derived.Test.YtkkkfaifkmmhpaaGreatDoorA
namespace Go.Proofs.YtkkkfaifkmmhpaaGreatDoor
open Go.RowKit
set_option maxRecDepth 100000

def spc (ws t k : Value) (f : Nat → Value) (sh pl : Value) (se ro : Int) : Array Value :=
  #[ws, t, k, f 0, f 1, f 2, f 3, f 4, f 5, f 6, f 7, sh, pl, .int .i64 se, .int .i64 ro]

theorem heap_alloc (w : World) (o : Obj) (k : Nat) : (w.alloc o).heap[k]? = if k = w.heap.size then some o else w.heap[k]? := by
  unfold World.alloc; simp only [Array.getElem?_push]

theorem heap_setCell_other {w : World} {a : Addr} {v : Value} {k : Nat} (h : k ≠ a.block) : (w.setCell a v).heap[k]? = w.heap[k]? := Below.heap_setCell w a v k h

theorem Blk.setCell_same {w : World} {b : Nat} {c : Array Value} {t : TypeId} (h : Blk w b c t) (i : Nat) (v : Value) : Blk (w.setCell ⟨b, i, none⟩ v) b (c.setIfInBounds i v) t := by
  unfold Blk at *
  simp [World.setCell, Array.getElem?_modify, h]
theorem Blk.setCell_other {w : World} {b : Nat} {c : Array Value} {t : TypeId} (h : Blk w b c t) {a : Addr} (ha : b ≠ a.block) (v : Value) : Blk (w.setCell a v) b c t := by
  unfold Blk at *
  rw [heap_setCell_other ha]; exact h
theorem Blk.alloc {w : World} {b : Nat} {c : Array Value} {t : TypeId} (h : Blk w b c t) (o : Obj) : Blk (w.alloc o) b c t := by
  have := h.lt
  unfold Blk at *
  rw [heap_alloc, if_neg (by omega)]; exact h
theorem Blk.new {w : World} {b : Nat} (c : Array Value) (t : TypeId) (hb : b = w.heap.size) : Blk (w.alloc (.cells c t)) b c t := by
  unfold Blk
  rw [heap_alloc, if_pos hb]
theorem Blk.drew {w : World} {b : Nat} {c : Array Value} {t : TypeId} (h : Blk w b c t) : Blk w.drew b c t := h

theorem at_new {w : World} {b : Nat} (o : Obj) (hb : b = w.heap.size) : (w.alloc o).heap[b]? = some o := by
  rw [heap_alloc, if_pos hb]
theorem at_old {w : World} {b : Nat} {x : Obj} (o : Obj) (h : w.heap[b]? = some x) : (w.alloc o).heap[b]? = some x := by
  have : b < w.heap.size := lt_of_block h
  rw [heap_alloc, if_neg (by omega)]; exact h

/-- A new space of n pages whose first block is N, with k of its eight lists of free blocks. -/
structure Made (w : World) (N n k : Nat) : Prop where
  size : w.heap.size = N + 8 + 2 * k
  pg : Blk w N (zPages n) 139
  tb : Blk w (N + 1) #[.slice (some ⟨N, 0, none⟩) n n, .int .i64 0, .int .i64 (n : Int)] 125
  wd : Blk w (N + 2) (zWords (n * 64)) 3
  sh : w.heap[N + 3]? = some (.map #[] 0)
  pl : w.heap[N + 4]? = some (.map #[] 0)
  sp : Blk w (N + 5) (spc (.slice (some ⟨N + 2, 0, none⟩) (n * 64) (n * 64)) (.pointer (some ⟨N + 1, 0, none⟩)) (.pointer (some ⟨N + 7, 0, none⟩))
    (fun j => if j < k then .pointer (some ⟨N + 9 + 2 * j, 0, none⟩) else .pointer none) (.map (some (N + 3))) (.map (some (N + 4))) 0 0) 80
  tr : Blk w (N + 6) (zRows n) 132
  tm : Blk w (N + 7) #[.int .i64 ((n : Int) * 64), .slice (some ⟨N + 6, 0, none⟩) n n] 128
  fr : ∀ j, j < k → Blk w (N + 8 + 2 * j) (zRows n) 132
  fm : ∀ j, j < k → Blk w (N + 9 + 2 * j) #[.int .i64 ((n : Int) * 64), .slice (some ⟨N + 8 + 2 * j, 0, none⟩) n n] 128

theorem Made.next {w : World} {N n k : Nat} (h : Made w N n k) (hk : k < 8) :
    Made (((w.setCell ⟨N + 5, 3 + k, none⟩ (.pointer (some ⟨w.heap.size + 1, 0, none⟩))).alloc (.cells (zRows n) 132)).alloc (.cells #[.int .i64 ((n : Int) * 64), .slice (some ⟨w.heap.size, 0, none⟩) n n] 128)) N n (k + 1) := by
  have hs := h.size
  refine ⟨by simp; omega, ?_, ?_, ?_, ?_, ?_, ?_, ?_, ?_, ?_, ?_⟩
  · exact ((h.pg.setCell_other (by simp) _).alloc _).alloc _
  · exact ((h.tb.setCell_other (by simp) _).alloc _).alloc _
  · exact ((h.wd.setCell_other (by simp) _).alloc _).alloc _
  · exact at_old _ (at_old _ (by rw [heap_setCell_other (by simp)]; exact h.sh))
  · exact at_old _ (at_old _ (by rw [heap_setCell_other (by simp)]; exact h.pl))
  · have := ((h.sp.setCell_same (3 + k) (.pointer (some ⟨w.heap.size + 1, 0, none⟩))).alloc (.cells (zRows n) 132)).alloc (.cells #[.int .i64 ((n : Int) * 64), .slice (some ⟨w.heap.size, 0, none⟩) n n] 128)
    have e : w.heap.size + 1 = N + 9 + 2 * k := by omega
    rw [e] at this ⊢
    refine cast (congrArg (fun c => Blk _ _ c _) ?_) this
    obtain rfl | rfl | rfl | rfl | rfl | rfl | rfl | rfl : k = 0 ∨ k = 1 ∨ k = 2 ∨ k = 3 ∨ k = 4 ∨ k = 5 ∨ k = 6 ∨ k = 7 := by omega
    all_goals (simp [spc])
  · exact ((h.tr.setCell_other (by simp) _).alloc _).alloc _
  · exact ((h.tm.setCell_other (by simp) _).alloc _).alloc _
  · intro j hj
    by_cases e : j = k
    · subst e
      exact (Blk.new _ _ (by simp; omega)).alloc _
    · exact (((h.fr j (by omega)).setCell_other (by simp; omega) _).alloc _).alloc _
  · intro j hj
    by_cases e : j = k
    · subst e
      have e : w.heap.size = N + 8 + 2 * j := by omega
      rw [e]
      exact Blk.new _ _ (by simp; omega)
    · exact (((h.fm j (by omega)).setCell_other (by simp; omega) _).alloc _).alloc _

theorem Made.drew {w : World} {N n k : Nat} (h : Made w N n k) : Made w.drew N n k := ⟨h.1, h.2, h.3, h.4, h.5, h.6, h.7, h.8, h.9, h.10, h.11⟩

set_option maxHeartbeats 400000 in
theorem spaceNew_ok (n : Nat) (w : World) (h1 : 1 ≤ n) (h2 : n ≤ 4096) :
    Calls Tryz.prog 8 #[.int .i64 (n : Int)] w fun e w' => e = .returned (.tuple #[.pointer (some ⟨w.heap.size + 5, 0, none⟩), .int .i64 0]) ∧ Made w' w.heap.size n 8 ∧ Below w.heap.size w w' := by
  obtain ⟨i, hi, hz, hs, hb⟩ := info_parts Tryz.info3
  have hm := fun u => run_make (P := Tryz.prog) u 27 3 i _ Tryz.underlying27 hi hz .i64 .i64 ((n : Int) * 64) ((n : Int) * 64) (by omega) (by omega) (by rw [hb]; omega) (by omega)
  have e : ((n : Int) * 64).toNat = n * 64 := by omega
  rw [hs, e] at hm
  clear hi hz hs hb e
  have hmm := @run_makeMap Tryz.prog
  go_enter Tryz.func8, Tryz.ntmps8
  go_wp2_with (first
    | (go_at_call 34; refine (pagesNew_ok _ _ (by omega) (by omega)).mono ?_; rintro e w' ⟨rfl, rfl⟩)
    | (go_at_call 35; refine (bitmapNew_ok n _ _ (by omega) (by omega) (by omega)).mono ?_; rintro e w' ⟨rfl, rfl⟩))
  clear hm hmm
  simp only [Nat.add_assoc, Nat.reduceAdd]
  go_loopw [36] (fun c wr => ∃ k : Nat, k ≤ 8 ∧ c = .int .i64 k ∧ Made wr w.heap.size n k ∧ Below w.heap.size w wr) (fun c _ => 8 - (intOf c).toNat)
  case atStart =>
    refine ⟨0, by omega, rfl, ?_, by go_grown⟩
    constructor
    case size => simp
    case fr => intro j hj; omega
    case fm => intro j hj; omega
    case sh =>
      refine at_old _ (at_old _ (at_old _ (at_old _ ?_)))
      refine at_new _ ?_
      simp only [World.size_alloc]
    case pl =>
      refine at_old _ (at_old _ (at_old _ ?_))
      refine at_new _ ?_
      simp only [World.size_alloc]
    all_goals repeat first
      | exact Blk.new _ _ (by first | omega | (simp only [World.size_alloc]; done) | (simp only [World.size_alloc]; omega))
      | exact at_new _ _ (by first | omega | (simp only [World.size_alloc]; done) | (simp only [World.size_alloc]; omega))
      | refine Blk.alloc ?_ _
      | refine at_old _ ?_
  case round =>
    obtain ⟨k, hk, rfl, hM, hB⟩ := hrel
    by_cases hlt : k < 8
    · have hn := hM.next hlt
      have c0 : wr.cell? ⟨w.heap.size + 5, 0, none⟩ = some (.slice (some ⟨w.heap.size + 2, 0, none⟩) (n * 64) (n * 64)) := by rw [hM.sp.cell]; simp [spc]
      have c3 : wr.cell? ⟨w.heap.size + 5, 3 + k, none⟩ = some (.pointer none) := by
        rw [hM.sp.cell]
        obtain rfl | rfl | rfl | rfl | rfl | rfl | rfl | rfl : k = 0 ∨ k = 1 ∨ k = 2 ∨ k = 3 ∨ k = 4 ∨ k = 5 ∨ k = 6 ∨ k = 7 := by omega
        all_goals (simp [spc])
      have f3 : wr.frozen? ⟨w.heap.size + 5, 3 + k, none⟩ = false := hM.sp.free _
      have hs : w.heap.size + 5 < wr.heap.size := by have := hM.size; omega
      have HM := Lib.hid hM
      have HN := Lib.hid hn
      have HB := Lib.hid hB
      clear hM hn hB
      go_wp2_with fail
      go_region_with (go_at_call 35; refine (bitmapNew_ok n _ _ (by omega) (by omega) (by omega)).mono ?_; rintro e w' ⟨rfl, rfl⟩)
      go_wp2_with fail
      go_roundw
      case rel => exact ⟨k + 1, by omega, by go_num, HN.out.drew, by have := HB.out; go_grown⟩
      case measure => simp [intOf]; omega
    · obtain rfl : k = 8 := by omega
      go_wp2_with fail
      go_ret2
      exact ⟨rfl, hM, hB⟩
end Go.Proofs.YtkkkfaifkmmhpaaGreatDoor
