/- SpaceNews: the walk. -/
import Derived.Test.YtkkkfaifkmmhpaaGreatDoorKL
namespace Go.Proofs.YtkkkfaifkmmhpaaGreatDoor
open Go.RowKit
set_option maxRecDepth 100000

theorem MadePair.below {n B p : Nat} {w w' : World} (h : MadePair n B w p) (hb : Below w.heap.size w w') : MadePair n B w' p := by
  obtain ⟨N, R, rb, ob, h1, h2, h3, h4, hs, hr, hp⟩ := h
  have := hb.size
  exact ⟨N, R, rb, ob, h1, h2, h3, by omega, hs.below (by omega) hb, hr.below (by omega) hb, hp.below (by omega) hb⟩
theorem MadePair.only {n B p : Nat} {w w' : World} (h : MadePair n B w p) (ho : Only [] w w') : MadePair n B w' p := h.below (ho.below (Nat.le_refl _) (by simp))
theorem Tab.below {w w' : World} {B : Nat} (h : Tab w) (hb : Below B w w') (hB : 0 < B) : Tab w' := by
  intro j hj
  rw [← h j hj]
  exact World.cell?_of_block (w := w) (hb.block 0 hB)
theorem belowT {B B' : Nat} {a b c : World} (h : Below B a b) (k : Below B' b c) (hB : B ≤ B') : Below B a c :=
  ⟨k.os.trans h.os, k.tape.trans h.tape, k.output.trans h.output, Nat.le_trans h.size k.size, fun x hx => (k.block x (by omega)).trans (h.block x hx)⟩

theorem looked19m {n B p : Nat} {w : World} (h1 : 1 ≤ n) (h2 : n ≤ 24) (h : MadePair n B w p) :
    Calls Tryz.prog 6 #[.pointer (some ⟨p, 0, none⟩), opV 19] w fun e w' => e = .returned (.bool true) ∧ MadePair n B w' p ∧ Below w.heap.size w w' := by
  have h' := h
  obtain ⟨N, R, rb, ob, -, -, -, -, hs, hr, hp⟩ := h
  exact (looked19 N R rb ob n p w h1 h2 hs hr (hp.cell 0) (hp.cell 1)).mono fun e w' ⟨he, ho⟩ => ⟨he, h'.only ho, ho.below (Nat.le_refl _) (by simp)⟩

def NewsPost (w : World) (e : Ending) (w' : World) : Prop := e = .returned (.bool true) ∧ Below w.heap.size w w'

set_option maxHeartbeats 1000000 in
theorem news_no (n : Int) (w : World) (hT : Tab w) (h : n < 1 ∨ 4096 < n) : Calls Tryz.prog 3 #[.int .i64 n] w (NewsPost w) := by
  have HT := Lib.hid hT
  clear hT
  go_enter Tryz.func3, Tryz.ntmps3
  go_wp2_with (first
    | (go_at_call 4; refine (made_no n w h).mono ?_; rintro e x1 ⟨rfl, rfl⟩)
    | (go_at_call 5; refine (alive_ok _ HT.out).mono ?_; rintro e x2 ⟨rfl, hb⟩; have HB := Lib.hid hb; clear hb))
  go_ret
  exact ⟨rfl, HB.out⟩

set_option maxHeartbeats 1000000 in
theorem news_big (n : Nat) (w : World) (hT : Tab w) (h1 : 24 < n) (h2 : n ≤ 4096) : Calls Tryz.prog 3 #[.int .i64 (n : Int)] w (NewsPost w) := by
  have hN : 0 < w.heap.size := World.block_lt_of_cell? w ⟨0, 0, none⟩ (hT 0 (by omega))
  have HT := Lib.hid hT
  clear hT
  go_enter Tryz.func3, Tryz.ntmps3
  go_wp2_with (first
    | (go_at_call 4; refine (made_big n w h1 h2).mono ?_; rintro e x1 ⟨rfl, hb⟩; have HA := Lib.hid hb; clear hb)
    | (go_at_call 5; refine (alive_ok _ (HT.out.below HA.out hN)).mono ?_; rintro e x2 ⟨rfl, hb⟩; have HB := Lib.hid hb; clear hb))
  go_ret
  exact ⟨rfl, belowT HA.out HB.out HA.out.size⟩

set_option maxHeartbeats 1000000 in
theorem news_ok (n : Nat) (w : World) (hT : Tab w) (h1 : 1 ≤ n) (h2 : n ≤ 24) : Calls Tryz.prog 3 #[.int .i64 (n : Int)] w (NewsPost w) := by
  have hN : 0 < w.heap.size := World.block_lt_of_cell? w ⟨0, 0, none⟩ (hT 0 (by omega))
  have HT := Lib.hid hT
  clear hT
  go_enter Tryz.func3, Tryz.ntmps3
  go_wp2_with (first
    | (go_at_call 4; refine (made_ok n w h1 h2).mono ?_; rintro e x1 ⟨p, rfl, hm, hb⟩; have HA := Lib.hid hb; have M1 := Lib.hid hm; clear hb hm)
    | (go_at_call 5; refine (alive_ok _ (HT.out.below HA.out hN)).mono ?_; rintro e x2 ⟨rfl, hb⟩; have HB := Lib.hid (belowT HA.out hb HA.out.size); have M2 := Lib.hid (M1.out.below hb); clear hb M1)
    | (go_at_call 6; refine (looked19m h1 h2 M2.out).mono ?_; rintro e x3 ⟨rfl, hm, hb⟩; have HC := Lib.hid (belowT HB.out hb HB.out.size); have M3 := Lib.hid hm; clear hb hm M2)
    | (go_at_call 7; refine (whole1 n _ _ _ h1 h2 M3.out).mono ?_; rintro e x4 ⟨rfl, hb⟩; have HD := Lib.hid (belowT HC.out hb (Nat.le_refl _)); clear hb))
  go_ret
  exact ⟨rfl, HD.out⟩

theorem news_any (n : Int) (w : World) (hT : Tab w) : Calls Tryz.prog 3 #[.int .i64 n] w (NewsPost w) := by
  by_cases h : n < 1 ∨ 4096 < n
  · exact news_no n w hT h
  · obtain ⟨m, rfl⟩ : ∃ m : Nat, n = m := ⟨n.toNat, by omega⟩
    by_cases h24 : m ≤ 24
    · exact news_ok m w hT (by omega) h24
    · exact news_big m w hT (by omega) (by omega)
end Go.Proofs.YtkkkfaifkmmhpaaGreatDoor
