/- alive. -/
import Derived.Test.YtkkkfaifkmmhpaaGreatDoorI
namespace Go.Proofs.YtkkkfaifkmmhpaaGreatDoor
open Go.RowKit
set_option maxRecDepth 100000

abbrev sh0 : MapEntry := { key := .int .i64 0, val := .agg #[.int .i64 1, .int .i64 3, .int .i64 1, .int .i64 0], born := 0 }
abbrev pl0 : MapEntry := { key := .int .i64 1, val := .int .i64 0, born := 0 }
abbrev sh1 : MapEntry := { key := .int .i64 4, val := .agg #[.int .i64 1, .int .i64 3, .int .i64 2, .int .i64 0], born := 1 }
abbrev pl1 : MapEntry := { key := .int .i64 2, val := .int .i64 4, born := 1 }

theorem run_getObj_map' {P : Program} {w : World} {r : Nat} {es : Array MapEntry} {c : Nat} (h : w.heap[r]? = some (.map es c)) : (getObj r).run P w = .ok (.map es c) w := by
  simp [getObj, Sem.run, h]
theorem run_setObj_map' {P : Program} {w : World} {r : Nat} {es : Array MapEntry} {c : Nat} (h : w.heap[r]? = some (.map es c)) (o : Obj) : (setObj r o).run P w = .ok () (setObjW w r o) := by
  simp [setObj, Sem.run, h, setObjW]

theorem ck3 (u : World) (x : Int) : (Instr.checkKey false 10000 3 (.int .i64 x)).run Tryz.prog u = .ok () u := by
  have h : ∀ n, (Instr.checkKey false (n + 1) 3 (.int .i64 x)).run Tryz.prog u = .ok () u := by
    intro n
    simp [Instr.checkKey, run_underlying Tryz.underlying3]
  exact h 9999

theorem mapP0 (u : World) (r : Nat) (h : u.heap[r]? = some (.map #[] 0)) : (Instr.mapUpdate 76 (.map (some r)) (.int .i64 1) (.int .i64 0)).run Tryz.prog u = .ok () (setObjW u r (.map #[pl0] 1)) := by
  simp [Instr.mapUpdate, run_underlying Tryz.underlying76, run_underlying Tryz.underlying3, run_getObj_map' h, run_setObj_map' h, ck3, Instr.findKey, Instr.findNow, Instr.sameNow]
theorem mapP1 (u : World) (r : Nat) (h : u.heap[r]? = some (.map #[pl0] 1)) : (Instr.mapUpdate 76 (.map (some r)) (.int .i64 2) (.int .i64 4)).run Tryz.prog u = .ok () (setObjW u r (.map #[pl0, pl1] 2)) := by
  simp [Instr.mapUpdate, run_underlying Tryz.underlying76, run_underlying Tryz.underlying3, run_getObj_map' h, run_setObj_map' h, ck3, Instr.findKey, Instr.findNow, Instr.sameNow]
theorem mapS0 (u : World) (r : Nat) (h : u.heap[r]? = some (.map #[] 0)) : (Instr.mapUpdate 75 (.map (some r)) (.int .i64 0) (.agg #[.int .i64 1, .int .i64 3, .int .i64 1, .int .i64 0])).run Tryz.prog u = .ok () (setObjW u r (.map #[sh0] 1)) := by
  simp [Instr.mapUpdate, run_underlying Tryz.underlying75, run_underlying Tryz.underlying3, run_getObj_map' h, run_setObj_map' h, ck3, Instr.findKey, Instr.findNow, Instr.sameNow]
theorem mapS1 (u : World) (r : Nat) (h : u.heap[r]? = some (.map #[sh0] 1)) : (Instr.mapUpdate 75 (.map (some r)) (.int .i64 4) (.agg #[.int .i64 1, .int .i64 3, .int .i64 2, .int .i64 0])).run Tryz.prog u = .ok () (setObjW u r (.map #[sh0, sh1] 2)) := by
  simp [Instr.mapUpdate, run_underlying Tryz.underlying75, run_underlying Tryz.underlying3, run_getObj_map' h, run_setObj_map' h, ck3, Instr.findKey, Instr.findNow, Instr.sameNow]

set_option maxHeartbeats 400000 in
theorem peek8 (N : Nat) (SC W : Array Value) (r1 se ro v : Int) (w : World) (hc : SCok N SC se ro) (hk : Tk w N SC W r1) (hv : W[8]? = some (.int .i64 v)) :
    Calls Tryz.prog 12 #[.pointer (some ⟨N + 5, 0, none⟩), .int .i64 8] w fun e w' => e = .returned (.tuple #[.int .i64 v, .bool true]) ∧ Only [] w w' := by
  have c0 := (hk.cells hc).1
  have c8 : w.cell? ⟨N + 2, 8, none⟩ = some (.int .i64 v) := by rw [hk.wd.cell]; exact hv
  clear hk hc hv
  go_enter Tryz.func12, Tryz.ntmps12
  go_wp2_with fail
  go_ret2
  exact ⟨rfl, Only.refl _ _⟩

theorem lk8 : lk RF 8 = 100 := by decide +kernel
theorem wC_get (i : Nat) (h : i < 16) : (wC 16)[4 * i]? = some (.int .i64 (lk RF (4 * i))) := by
  have : 4 * i < 64 := by omega
  simp [wC, this, h]

theorem wiped_size (cur : Array Value) (o n : Nat) (h : o + n ≤ cur.size) : (wiped cur o n).size = cur.size := by
  simp [wiped]
  omega
theorem rowsOne : zRows 1 = #[.int .u64 0] := by kernel_rfl
theorem pagesOne : zPages 1 = #[.int .i64 0, .int .i64 0, .int .i64 0] := by kernel_rfl
theorem Sp.tk {w : World} {N : Nat} (h : Sp w N 1) (hT : Tab w) (hN : 0 < N) : ∃ SC, SCok N SC 0 0 ∧ Tk w N SC (zWords (1 * 64)) 0 :=
  ⟨_, ⟨rfl, rfl, rfl, rfl, rfl, rfl, rfl, rfl, rfl⟩, ⟨hN, hT, h.sp, h.wd, h.fm 1 (by omega), by have := h.fr 1 (by omega); rwa [rowsOne] at this⟩⟩

set_option maxHeartbeats 1000000 in
theorem alive_ok (w : World) (hT : Tab w) : Calls Tryz.prog 5 #[] w fun e w' => e = .returned (.bool true) ∧ Below w.heap.size w w' := by
  have hN : 0 < w.heap.size := World.block_lt_of_cell? w ⟨0, 0, none⟩ (hT 0 (by omega))
  have HT := Lib.hid hT
  have HN := Lib.hid hN
  clear hT hN
  go_enter Tryz.func5, Tryz.ntmps5
  go_upto_region 4 with (first
    | (go_at_call 8
       refine (spaceNew_ok 1 _ (by omega) (by omega)).mono ?_
       rintro e w1 ⟨rfl, hM, hB⟩
       have HM := Lib.hid hM
       have HB := Lib.hid hB
       clear hM hB))
  have sp := HM.out.toSp
  have ht1 := HT.out.only (Only.of_below (S := []) HB.out) (by simp)
  obtain ⟨SC, hsc, htk⟩ := sp.tk ht1 HN.out
  have hp : Blk w1 w.heap.size #[.int .i64 0, .int .i64 0, .int .i64 0] 139 := by have := sp.pg; rwa [pagesOne] at this
  have hr6 : Blk w1 (w.heap.size + 6) #[.int .u64 0] 132 := by have := sp.tr; rwa [rowsOne] at this
  have tA := takeA w.heap.size SC 0 0 (w1.alloc (.cells #[.int .i64 0, .int .i64 0] 47)) hsc (htk.only (S := []) ((Only.refl _ _).alloc _) (by simp) (by simp) (by simp) (by simp) (by simp)) (sp.tb.alloc _) (hp.alloc _)
  have aA := alloc0 w.heap.size SC (zWords (1 * 64)) (wC 16) 0 r1a 0 0 0 #[] #[] #[sh0] #[pl0] 0 0 1 1 w1 (by omega) (by omega) (wC_size 16) hsc htk sp.sh sp.pl sp.tm hr6 tA (fun u hu => mapP0 u _ hu) (fun u hu => mapS0 u _ hu)
  have AA := Lib.hid aA
  have HSC := Lib.hid hsc
  clear sp ht1 hp hr6 tA aA hsc htk
  go_upto_region 5 with (go_at_call 11
                         refine AA.out.mono ?_
                         rintro e w2 ⟨h1, rfl, s2⟩
                         have S2 := Lib.hid s2
                         clear s2)
  -- the second one
  have hsc2 := (HSC.out.serial (0 + 1)).room (0 + 4)
  have s2 := S2.out.alloc (.cells #[.int .i64 0, .int .i64 0] 47)
  have b2 : Blk (w2.alloc (.cells #[.int .i64 0, .int .i64 0] 47)) w2.heap.size #[.int .i64 0, .int .i64 0] 47 := Blk.new _ _ rfl
  have z2 : w.heap.size + 11 < w2.heap.size := by
    have a := HM.out.size
    have b := S2.out.o.size
    omega
  generalize (SC.setIfInBounds 13 (.int .i64 (0 + 1))).setIfInBounds 14 (.int .i64 (0 + 4)) = SC2 at hsc2 s2
  have hW4 : ((wiped (wC 16) 0 4).setIfInBounds 0 (.int .i64 h1))[4]? = some (.int .i64 (lk RF 4)) := by
    rw [Array.getElem?_setIfInBounds_ne (by omega), wiped_get _ _ _ _ (by rw [wC_size]; omega)]
    exact wC_get 1 (by omega)
  have hW8 : ((wiped (wC 16) 0 4).setIfInBounds 0 (.int .i64 h1))[8]? = some (.int .i64 (lk RF 8)) := by
    rw [Array.getElem?_setIfInBounds_ne (by omega), wiped_get _ _ _ _ (by rw [wC_size]; omega)]
    exact wC_get 2 (by omega)
  have hWs : ((wiped (wC 16) 0 4).setIfInBounds 0 (.int .i64 h1)).size = 64 := by simp [wiped_size, wC_size]
  generalize (wiped (wC 16) 0 4).setIfInBounds 0 (.int .i64 h1) = W2 at s2 hW4 hW8 hWs
  generalize hu2 : w2.alloc (.cells #[.int .i64 0, .int .i64 0] 47) = u2 at s2 b2 ⊢
  have tB := (takeB w.heap.size SC2 W2 (0 + 1) (0 + 4) (u2.alloc (.cells #[.int .i64 0, .int .i64 0] 47)) hsc2 (s2.k.only (S := []) ((Only.refl _ _).alloc _) (by simp) (by simp) (by simp) (by simp) (by simp)) hW4).mono
    (R' := fun e w' => e = .returned (.tuple #[.int .i64 4, .agg #[.int .i64 0, .int .i64 0]]) ∧ Tk w' w.heap.size SC2 W2 r1b ∧ Only [w.heap.size, w.heap.size + 1, w.heap.size + 2, w.heap.size + 10] (u2.alloc (.cells #[.int .i64 0, .int .i64 0] 47)) w')
    (fun e w' h => ⟨h.1, h.2.1, h.2.2.mono (by simp)⟩)
  have aB := alloc4 w.heap.size SC2 W2 W2 r1a r1b _ (0 + 1) (0 + 4) #[sh0] #[pl0] #[sh0, sh1] #[pl0, pl1] 1 1 2 2 u2 (by omega) (by omega) hWs hsc2 s2.k s2.ms s2.mp s2.mt s2.rt tB (fun u hu => mapP1 u _ hu) (fun u hu => mapS1 u _ hu)
  have hsc3 := (hsc2.serial (0 + 1 + 1)).room (0 + 4 + 4)
  have AB := Lib.hid aB
  have HSC3 := Lib.hid hsc3
  have B2 := Lib.hid b2
  have Z2 := Lib.hid z2
  have ZU2 := Lib.hid s2.o
  have W8 := Lib.hid hW8
  have WS := Lib.hid hWs
  clear hsc2 s2 b2 z2 hW4 hW8 hWs tB aB hsc3 hu2 S2 AA
  go_upto_region 6 with (go_at_call 11
                         refine AB.out.mono ?_
                         rintro e w3 ⟨h2, rfl, s3⟩
                         have S3 := Lib.hid s3
                         clear s3)
  have hW : ((wiped W2 4 4).setIfInBounds 4 (.int .i64 h2))[8]? = some (.int .i64 100) := by
    rw [Array.getElem?_setIfInBounds_ne (by omega), wiped_get _ _ _ _ (by rw [WS.out]; omega), ← lk8]
    exact W8.out
  have s4 := S3.out.alloc (.cells #[.int .i64 0, .int .i64 0] 47)
  have b4 : Blk (w3.alloc (.cells #[.int .i64 0, .int .i64 0] 47)) w2.heap.size #[.int .i64 0, .int .i64 0] 47 := B2.out.only s4.o (by have := Z2.out; simp; omega)
  have b5 : Blk (w3.alloc (.cells #[.int .i64 0, .int .i64 0] 47)) w3.heap.size #[.int .i64 0, .int .i64 0] 47 := Blk.new _ _ rfl
  have pk := peek8 w.heap.size _ _ _ _ _ 100 (w3.alloc (.cells #[.int .i64 0, .int .i64 0] 47)) HSC3.out s4.k hW
  have PK := Lib.hid pk
  have B4 := Lib.hid b4
  have B5 := Lib.hid b5
  have S4 := Lib.hid s4
  clear hW s4 b4 b5 pk
  go_wp2_with (first
    | (go_at_call 12
       refine PK.out.mono ?_
       rintro e w5 ⟨rfl, ho5⟩
       have b4 := B4.out.only ho5 (by simp)
       have b5 := B5.out.only ho5 (by simp)
       have x0 : w5.cell? ⟨w2.heap.size, 0, none⟩ = some (.int .i64 0) := by rw [b4.cell]; rfl
       have x1 : w5.cell? ⟨w2.heap.size, 1, none⟩ = some (.int .i64 0) := by rw [b4.cell]; rfl
       have x2 : w5.cell? ⟨w3.heap.size, 0, none⟩ = some (.int .i64 0) := by rw [b5.cell]; rfl
       have x3 : w5.cell? ⟨w3.heap.size, 1, none⟩ = some (.int .i64 0) := by rw [b5.cell]; rfl
       have O5 := Lib.hid ho5
       clear b4 b5 ho5))
  go_ret
  have o := (ZU2.out.trans S4.out.o).trans (O5.out.mono (by simp))
  exact ⟨rfl, HB.out.trans (o.below HB.out.size (by simp))⟩
end Go.Proofs.YtkkkfaifkmmhpaaGreatDoor
