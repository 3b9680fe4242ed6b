/- space.take, twice, in a new space of one page. -/
import Derived.Test.YtkkkfaifkmmhpaaGreatDoorG
namespace Go.Proofs.YtkkkfaifkmmhpaaGreatDoor
open Go.RowKit
set_option maxRecDepth 100000

/-- The cells of the space that are pointers and such. -/
structure SCok (N : Nat) (SC : Array Value) (se ro : Int) : Prop where
  z : SC.size = 15
  a0 : SC[0]? = some (.slice (some ⟨N + 2, 0, none⟩) 64 64)
  a1 : SC[1]? = some (.pointer (some ⟨N + 1, 0, none⟩))
  a2 : SC[2]? = some (.pointer (some ⟨N + 7, 0, none⟩))
  a4 : SC[4]? = some (.pointer (some ⟨N + 11, 0, none⟩))
  a11 : SC[11]? = some (.map (some (N + 3)))
  a12 : SC[12]? = some (.map (some (N + 4)))
  a13 : SC[13]? = some (.int .i64 se)
  a14 : SC[14]? = some (.int .i64 ro)

structure Tk (w : World) (N : Nat) (SC W : Array Value) (r1 : Int) : Prop where
  pos : 0 < N
  t : Tab w
  s : Blk w (N + 5) SC 80
  wd : Blk w (N + 2) W 3
  m : Blk w (N + 11) (mapC (N + 10)) 128
  r : Blk w (N + 10) #[.int .u64 r1] 132

theorem Tk.only {w w' : World} {N : Nat} {SC W : Array Value} {r1 : Int} {S : List Nat} (h : Tk w N SC W r1) (ho : Only S w w') (h0 : 0 ∉ S) (h1 : N + 5 ∉ S) (h2 : N + 2 ∉ S) (h3 : N + 11 ∉ S) (h4 : N + 10 ∉ S) : Tk w' N SC W r1 :=
  ⟨h.pos, h.t.only ho h0, h.s.only ho h1, h.wd.only ho h2, h.m.only ho h3, h.r.only ho h4⟩
theorem Tk.below {w w' : World} {N : Nat} {SC W : Array Value} {r1 : Int} (h : Tk w N SC W r1) (ho : Below w.heap.size w w') : Tk w' N SC W r1 :=
  h.only (Only.of_below (S := []) ho) (by simp) (by simp) (by simp) (by simp) (by simp)

theorem Blk.drewN {w : World} {b : Nat} {c : Array Value} {t : TypeId} (h : Blk w b c t) (n : Nat) : Blk (w.drewN n) b c t := h
theorem Tk.drewN {w : World} {N : Nat} {SC W : Array Value} {r1 : Int} (h : Tk w N SC W r1) (n : Nat) : Tk (w.drewN n) N SC W r1 := ⟨h.1, h.2, h.3, h.4, h.5, h.6⟩

theorem Tk.cells {w : World} {N : Nat} {SC W : Array Value} {r1 se ro : Int} (h : Tk w N SC W r1) (hc : SCok N SC se ro) :
    w.cell? ⟨N + 5, 0, none⟩ = some (.slice (some ⟨N + 2, 0, none⟩) 64 64) ∧ w.cell? ⟨N + 5, 1, none⟩ = some (.pointer (some ⟨N + 1, 0, none⟩)) ∧ w.cell? ⟨N + 5, 4, none⟩ = some (.pointer (some ⟨N + 11, 0, none⟩)) :=
  ⟨by rw [h.s.cell]; exact hc.a0, by rw [h.s.cell]; exact hc.a1, by rw [h.s.cell]; exact hc.a4⟩

theorem Only.setNew {S : List Nat} {w w' : World} (h : Only S w w') {a : Addr} (ha : w.heap.size ≤ a.block) (v : Value) : Only S w (w'.setCell a v) :=
  ⟨h.os, h.tape, h.output, by simpa using h.size, fun k hk hS => by
    have hne : k ≠ a.block := by omega
    rw [heap_setCell_other hne]; exact h.block k hk hS⟩
theorem Tk.setOther {w : World} {N : Nat} {SC W : Array Value} {r1 : Int} (h : Tk w N SC W r1) {b i : Nat} (hb : N + 11 < b) (v : Value) : Tk (w.setCell ⟨b, i, none⟩ v) N SC W r1 :=
  h.only (S := [b]) ((Only.refl _ _).setCell (by simp) _) (by simp; omega) (by simp; omega) (by simp; omega) (by simp; omega) (by simp; omega)

/-- The cell of the second result. -/
abbrev flt0 (w : World) (b : Nat) : Prop := Blk w b #[.int .i64 0, .int .i64 0] 47

theorem nx00 : nx 0 0 = -1 := by decide +kernel
def r1a : Int := Go.bits .andNot .u64 RF (pt 0 1)

def TakeAPost (w : World) (N : Nat) (SC : Array Value) (e : Ending) (w' : World) : Prop :=
  e = .returned (.tuple #[.int .i64 0, .agg #[.int .i64 0, .int .i64 0]]) ∧ Tk w' N SC (wC 16) r1a ∧ Only [N, N + 1, N + 2, N + 10] w w'

set_option maxHeartbeats 1000000 in
theorem takeA (N : Nat) (SC : Array Value) (se ro : Int) (w : World) (hc : SCok N SC se ro) (hk : Tk w N SC (zWords (1 * 64)) 0) (htb : Blk w (N + 1) (tblC N 1) 125) (hpg : Blk w N #[.int .i64 0, .int .i64 0, .int .i64 0] 139) :
    Calls Tryz.prog 38 #[.pointer (some ⟨N + 5, 0, none⟩), .int .i64 3] w (TakeAPost w N SC) := by
  have hlt := hk.m.lt
  have HC := Lib.hid hc
  have HK := Lib.hid hk
  have HTB := Lib.hid htb
  have HPG := Lib.hid hpg
  have HLT := Lib.hid hlt
  clear hc hk htb hpg hlt
  have HR := Lib.hid (RF_pos)
  go_enter Tryz.func38, Tryz.ntmps38
  go_wp2_with (first
    | (go_at_call 53
       refine (of3 _).mono ?_
       rintro e w1 ⟨rfl, hB⟩
       have k0 : Tk (w.alloc (.cells #[.int .i64 0, .int .i64 0] 47)) N SC (zWords (1 * 64)) 0 := HK.out.only (S := []) ((Only.refl _ _).alloc _) (by simp) (by simp) (by simp) (by simp) (by simp)
       have k1 := k0.below hB
       have b1 : flt0 w1 w.heap.size := (Blk.new _ _ rfl).below (by simp) hB
       have t1 := (HTB.out.alloc (.cells #[.int .i64 0, .int .i64 0] 47)).below (HTB.out.alloc _).lt hB
       have p1 := (HPG.out.alloc (.cells #[.int .i64 0, .int .i64 0] 47)).below (HPG.out.alloc _).lt hB
       obtain ⟨c0, c1, c4⟩ := k1.cells HC.out
       have O1 := Lib.hid (((Only.refl [N, N + 1, N + 2, N + 10] w).alloc _).trans (Only.of_below hB))
       have K1 := Lib.hid k1
       have B1 := Lib.hid b1
       have T1 := Lib.hid t1
       have P1 := Lib.hid p1
       clear hB k0 k1 b1 t1 p1)
    | (go_at_call 80
       refine (next1 (N + 11) (N + 10) 0 0 _ K1.out.t (by omega) K1.out.m K1.out.r (by decide +kernel)).mono ?_
       rintro e w2 ⟨rfl, m2, rfl⟩
       rw [nx00])
    | (go_at_call 57
       refine (takeClass1 (N + 1) N _ (T1.out.drewN _) (P1.out.drewN _) (by omega)).mono ?_
       rintro e w3 ⟨rfl, ho3⟩
       have k3 := (K1.out.drewN m2).only ho3 (by simp; have := HK.out.pos; omega) (by simp) (by simp) (by simp) (by simp)
       have b3 := (B1.out.drewN m2).only ho3 (by simp; have := HLT.out; omega)
       have o3 := (O1.out.trans (Only.drewN (Only.refl _ _) m2)).trans (ho3.mono (T := [N, N + 1, N + 2, N + 10]) (by simp))
       obtain ⟨d0, d1, d4⟩ := k3.cells HC.out
       have K3 := Lib.hid k3
       have B3 := Lib.hid b3
       have O3 := Lib.hid o3
       clear ho3 k3 b3 o3))
  · refine (cut1 (N + 5) (N + 2) (N + 11) (N + 10) SC _ K3.out.t K3.out.s HC.out.a0 HC.out.a4 K3.out.wd K3.out.m K3.out.r (by have := HK.out.pos; omega)).mono ?_
    rintro e w4 ⟨rfl, hw4, hr4, ho4⟩
    have z := HK.out.pos
    have k4 : Tk w4 N SC (wC 16) RF := ⟨HK.out.pos, K3.out.t.only ho4 (by simp), K3.out.s.only ho4 (by simp), hw4, K3.out.m.only ho4 (by simp), hr4⟩
    have b4 := B3.out.only ho4 (by simp; have := HLT.out; omega)
    have o4 := O3.out.trans (ho4.mono (T := [N, N + 1, N + 2, N + 10]) (by simp))
    obtain ⟨e0, e1, e4⟩ := k4.cells HC.out
    have ww : w4.cell? ⟨N + 2, 0, none⟩ = some (.int .i64 (lk RF 0)) := by rw [k4.wd.cell]; simp [wC]
    have K4 := Lib.hid k4
    have B4 := Lib.hid b4
    have O4 := Lib.hid o4
    clear hw4 hr4 ho4 k4 b4 o4 z
    go_wp2_with fail
    go_quiet ((go_at_call 71; exact Calls.quiet_of (link1 (N + 5) (N + 11) (N + 10) 0 RF _ (K4.out.drewN _).t (by omega) e4 (K4.out.drewN _).m (K4.out.drewN _).r (HR.out _ (by omega)))))
    go_wp2_with (first
      | (go_at_call 85
         refine (clear1 (N + 11) (N + 10) 0 RF _ (by omega) (K4.out.drewN _).m (K4.out.drewN _).r).mono ?_
         rintro e w5 ⟨rfl, hr5, ho5⟩
         have z := HK.out.pos
         have k5 : Tk w5 N SC (wC 16) r1a := ⟨HK.out.pos, (K4.out.drewN nq).t.only ho5 (by simp), (K4.out.drewN nq).s.only ho5 (by simp), (K4.out.drewN nq).wd.only ho5 (by simp), (K4.out.drewN nq).m.only ho5 (by simp), hr5⟩
         have b5 := (B4.out.drewN nq).only ho5 (by simp; have := HLT.out; omega)
         have o5 := (O4.out.trans (Only.drewN (Only.refl _ _) nq)).trans (ho5.mono (T := [N, N + 1, N + 2, N + 10]) (by simp))
         have x0 : w5.cell? ⟨w.heap.size, 0, none⟩ = some (.int .i64 0) := by rw [b5.cell]; rfl
         have x1 : w5.cell? ⟨w.heap.size, 1, none⟩ = some (.int .i64 0) := by rw [b5.cell]; rfl
         have y0 : w5.frozen? ⟨w.heap.size, 0, none⟩ = false := b5.free _
         have y1 : w5.frozen? ⟨w.heap.size, 1, none⟩ = false := b5.free _
         have K5 := Lib.hid k5
         have B5 := Lib.hid b5
         have O5 := Lib.hid o5
         clear hr5 ho5 k5 b5 o5 z))
    refine bodyPost_ret (v := .tuple #[.int .i64 0, .agg #[.int .i64 0, .int .i64 0]]) ?_ rfl ⟨rfl, ?_, ?_⟩
    · simp [results, Tryz.results38, go_sem, x0, x1]
    · exact (K5.out.setOther HLT.out _).setOther HLT.out _
    · exact (O5.out.setNew (by simp) _).setNew (by simp) _
theorem nx_a : nx r1a 0 = 4 := by decide +kernel
theorem lk_a : lk r1a 4 = lk RF 4 := by decide +kernel
def r1b : Int := Go.bits .andNot .u64 r1a (pt 4 5)

def TakeBPost (w : World) (N : Nat) (SC W : Array Value) (e : Ending) (w' : World) : Prop :=
  e = .returned (.tuple #[.int .i64 4, .agg #[.int .i64 0, .int .i64 0]]) ∧ Tk w' N SC W r1b ∧ Only [N + 10] w w'

set_option maxHeartbeats 1000000 in
theorem takeB (N : Nat) (SC W : Array Value) (se ro : Int) (w : World) (hc : SCok N SC se ro) (hk : Tk w N SC W r1a) (hW : W[4]? = some (.int .i64 (lk RF 4))) :
    Calls Tryz.prog 38 #[.pointer (some ⟨N + 5, 0, none⟩), .int .i64 3] w (TakeBPost w N SC W) := by
  have hlt := hk.m.lt
  have HC := Lib.hid hc
  have HK := Lib.hid hk
  have HW := Lib.hid hW
  have HLT := Lib.hid hlt
  clear hc hk hlt hW
  go_enter Tryz.func38, Tryz.ntmps38
  go_wp2_with (first
    | (go_at_call 53
       refine (of3 _).mono ?_
       rintro e w1 ⟨rfl, hB⟩
       have k0 : Tk (w.alloc (.cells #[.int .i64 0, .int .i64 0] 47)) N SC W r1a := HK.out.only (S := []) ((Only.refl _ _).alloc _) (by simp) (by simp) (by simp) (by simp) (by simp)
       have k1 := k0.below hB
       have b1 : flt0 w1 w.heap.size := (Blk.new _ _ rfl).below (by simp) hB
       obtain ⟨c0, c1, c4⟩ := k1.cells HC.out
       have ww : w1.cell? ⟨N + 2, 4, none⟩ = some (.int .i64 (lk RF 4)) := by rw [k1.wd.cell]; exact HW.out
       have O1 := Lib.hid (((Only.refl [N + 10] w).alloc _).trans (Only.of_below hB))
       have K1 := Lib.hid k1
       have B1 := Lib.hid b1
       clear hB k0 k1 b1)
    | (go_at_call 80
       refine ((next1 (N + 11) (N + 10) 0 r1a _ K1.out.t (by omega) K1.out.m K1.out.r (by decide +kernel)).mono fun _ _ => NextPost.only).mono ?_
       rintro e w2 ⟨rfl, ho2⟩
       have k2 := K1.out.only ho2 (by simp) (by simp) (by simp) (by simp) (by simp)
       have b2 := B1.out.only ho2 (by simp)
       have o2 := O1.out.trans (ho2.mono (T := [N + 10]) (by simp))
       obtain ⟨d0, d1, d4⟩ := k2.cells HC.out
       have ww2 : w2.cell? ⟨N + 2, 4, none⟩ = some (.int .i64 (lk RF 4)) := by rw [k2.wd.cell]; exact HW.out
       have K2 := Lib.hid k2
       have B2 := Lib.hid b2
       have O2 := Lib.hid o2
       clear ho2 k2 b2 o2
       rw [nx_a]))
  have hla := lk_a
  go_quiet ((go_at_call 71; exact Calls.quiet_of (link1 (N + 5) (N + 11) (N + 10) 4 r1a _ (K2.out.drewN _).t (by omega) d4 (K2.out.drewN _).m (K2.out.drewN _).r (by decide +kernel))))
  clear hla
  go_wp2_with (first
      | (go_at_call 85
         refine (clear1 (N + 11) (N + 10) 4 r1a _ (by omega) (K2.out.drewN _).m (K2.out.drewN _).r).mono ?_
         rintro e w5 ⟨rfl, hr5, ho5⟩
         have z := HK.out.pos
         have k1 := (K2.out.drewN nq)
         have k5 : Tk w5 N SC W r1b := ⟨HK.out.pos, k1.t.only ho5 (by simp), k1.s.only ho5 (by simp), k1.wd.only ho5 (by simp), k1.m.only ho5 (by simp), hr5⟩
         have b5 := (B2.out.drewN nq).only ho5 (by simp; have := HLT.out; omega)
         have o5 := (O2.out.trans (Only.drewN (Only.refl _ _) nq)).trans ho5
         have x0 : w5.cell? ⟨w.heap.size, 0, none⟩ = some (.int .i64 0) := by rw [b5.cell]; rfl
         have x1 : w5.cell? ⟨w.heap.size, 1, none⟩ = some (.int .i64 0) := by rw [b5.cell]; rfl
         have y0 : w5.frozen? ⟨w.heap.size, 0, none⟩ = false := b5.free _
         have y1 : w5.frozen? ⟨w.heap.size, 1, none⟩ = false := b5.free _
         have K5 := Lib.hid k5
         have B5 := Lib.hid b5
         have O5 := Lib.hid o5
         clear hr5 ho5 k1 k5 b5 o5 z))
  refine bodyPost_ret (v := .tuple #[.int .i64 4, .agg #[.int .i64 0, .int .i64 0]]) ?_ rfl ⟨rfl, ?_, ?_⟩
  · simp [results, Tryz.results38, go_sem, x0, x1]
  · exact (K5.out.setOther HLT.out _).setOther HLT.out _
  · exact (O5.out.setNew (by simp) _).setNew (by simp) _
end Go.Proofs.YtkkkfaifkmmhpaaGreatDoor
