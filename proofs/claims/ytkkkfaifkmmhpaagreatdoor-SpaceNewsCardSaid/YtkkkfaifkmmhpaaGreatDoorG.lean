/- space.cut, of the one page of a new space. -/
import Derived.Test.YtkkkfaifkmmhpaaGreatDoorF
namespace Go.Proofs.YtkkkfaifkmmhpaaGreatDoor
open Go.RowKit
set_option maxRecDepth 100000

theorem zero3v (w : World) : (zeroValue 3).run Tryz.prog w = .ok (.int .i64 0) w := by kernel_rfl

/-- A row whose n cells from o on are 0. -/
def wiped (cur : Array Value) (o n : Nat) : Array Value := (cur.toList.take o ++ List.replicate n (Value.int .i64 0) ++ cur.toList.drop (o + n)).toArray

theorem run_clear27 (w : World) (ty : TypeId) (g o n c : Nat) (cur : Array Value) (hn : 0 < n) (hg : Blk w g cur 3) (hfit : o + n ≤ cur.size) :
    (Builtin.clear_ #[27] ty #[.slice (some ⟨g, o, none⟩) n c]).run Tryz.prog w = .ok (.tuple #[]) (w.setRow g (wiped cur o n)) := by
  obtain ⟨m, rfl⟩ : ∃ m, n = m + 1 := ⟨n - 1, by omega⟩
  have hz : (Builtin.zeroCells #[.int .i64 0] (m + 1)).toList = List.replicate (m + 1) (Value.int .i64 0) := by
    simp [Builtin.zeroCells, List.eq_replicate_iff, Nat.mod_one]
  have h := run_storeCells_at Tryz.prog g o 3 (List.replicate (m + 1) (Value.int .i64 0)) 0 cur w hg (by simpa using hfit) (by intro v hv; rw [List.eq_of_mem_replicate hv]; rfl)
  simp [Builtin.clear_, run_underlying Tryz.underlying27, zero3v, Value.cells, hz]
  simp [h, wiped]

theorem Blk.setRow {w : World} {g : Nat} {c c' : Array Value} {t : TypeId} (h : Blk w g c t) : Blk (w.setRow g c') g c' t := setRow_heap w g c c' t _ h
theorem Only.setRow {S : List Nat} {w w' : World} (h : Only S w w') {g : Nat} (hg : g ∈ S) (c : Array Value) : Only S w (w'.setRow g c) :=
  ⟨h.os, h.tape, h.output, by rw [setRow_size]; exact h.size, fun k hk hS => by
    have hne : k ≠ g := fun e => hS (by rw [e]; exact hg)
    rw [setRow_other _ _ _ _ hne]; exact h.block k hk hS⟩

/-- The row of the first k blocks' places; of all sixteen. -/
def rowK (k : Nat) : Int := (16 ^ k - 1) / 15
abbrev RF : Int := 1229782938247303441
theorem rowK_16 : rowK 16 = RF := by decide +kernel
theorem rowK_0 : rowK 0 = 0 := by decide +kernel
theorem rowK_next : ∀ k, k < 16 → Go.bits .or .u64 (rowK k) (pt (4 * k) (4 * k + 1)) = rowK (k + 1) := by decide +kernel
theorem RF_pos : ∀ k, k < 64 → 0 ≤ Go.bits .and .u64 RF (pt k 64) := by decide +kernel
/-- The words of the page behind k links. -/
def wC (k : Nat) : Array Value := (Array.range 64).map fun i => if i % 4 = 0 ∧ i / 4 < k then .int .i64 (lk RF i) else .int .i64 0
theorem wC_size (k : Nat) : (wC k).size = 64 := by simp [wC]
theorem wC_next (k : Nat) (hk : k < 16) : (wC k).setIfInBounds (4 * k) (.int .i64 (lk RF (4 * k))) = wC (k + 1) := by
  apply Array.ext
  · simp [wC]
  · intro i h1 h2
    have hi : i < 64 := by simpa [wC] using h2
    rw [Array.getElem_setIfInBounds (by simpa [wC] using hi)]
    simp only [wC, Array.getElem_map, Array.getElem_range]
    by_cases e : 4 * k = i
    · subst e
      simp
    · rw [if_neg e]
      by_cases hm : i % 4 = 0
      · have : (i / 4 < k + 1) ↔ (i / 4 < k) := by omega
        simp [hm, this]
      · simp [hm]
theorem wiped_all : wiped (zWords (1 * 64)) 0 64 = wC 0 := by kernel_rfl

theorem set1x (mb rb i : Nat) (x : Int) (r : Int) (w : World) (hx : x = (i : Int)) (hi : i < 64) (hm : Blk w mb (mapC rb) 128) (hr : Blk w rb #[.int .u64 r] 132) :
    Calls Tryz.prog 42 #[.pointer (some ⟨mb, 0, none⟩), .int .i64 x] w (RowPost w rb (Go.bits .or .u64 r (pt i (i + 1)))) := by subst hx; exact set1 mb rb i r w hi hm hr

theorem link1x (sb mb rb i : Nat) (x : Int) (r : Int) (w : World) (hx : x = (i : Int)) (hT : Tab w) (hi : i < 63) (hc : w.cell? ⟨sb, 4, none⟩ = some (.pointer (some ⟨mb, 0, none⟩))) (hm : Blk w mb (mapC rb) 128) (hr : Blk w rb #[.int .u64 r] 132)
    (hp : 0 ≤ Go.bits .and .u64 r (pt (i + 1) 64)) :
    Calls Tryz.prog 71 #[.pointer (some ⟨sb, 0, none⟩), .int .i64 1, .int .i64 x] w (NextPost w (lk r i)) := by subst hx; exact link1 sb mb rb i r w hT hi hc hm hr hp

theorem wC_at (k : Nat) (hk : k < 16) : (wC k)[k * 4]? = some (.int .i64 0) := by
  have h : k * 4 < 64 := by omega
  simp [wC, h]

def CutPost (w : World) (wb rb : Nat) (e : Ending) (w' : World) : Prop :=
  e = .returned (.tuple #[]) ∧ Blk w' wb (wC 16) 3 ∧ Blk w' rb #[.int .u64 RF] 132 ∧ Only [wb, rb] w w'

set_option maxHeartbeats 1000000 in
theorem cut1 (sb wb mb rb : Nat) (SC : Array Value) (w : World) (hT : Tab w) (hs : Blk w sb SC 80) (h0 : SC[0]? = some (.slice (some ⟨wb, 0, none⟩) 64 64)) (h4 : SC[4]? = some (.pointer (some ⟨mb, 0, none⟩)))
    (hw : Blk w wb (zWords (1 * 64)) 3) (hm : Blk w mb (mapC rb) 128) (hr : Blk w rb #[.int .u64 0] 132)
    (hd : sb ≠ wb ∧ sb ≠ rb ∧ mb ≠ wb ∧ mb ≠ rb ∧ wb ≠ rb ∧ 0 ≠ wb ∧ 0 ≠ rb) :
    Calls Tryz.prog 84 #[.pointer (some ⟨sb, 0, none⟩), .int .i64 0, .int .i64 1] w (CutPost w wb rb) := by
  have c0 : w.cell? ⟨sb, 0, none⟩ = some (.slice (some ⟨wb, 0, none⟩) 64 64) := by rw [hs.cell]; exact h0
  have hcl := fun ty => run_clear27 w ty wb 0 64 64 _ (by omega) hw (by simp [zWords, madeCells])
  rw [wiped_all] at hcl
  have w0 : Blk (w.setRow wb (wC 0)) wb (wC 0) 3 := hw.setRow
  have o0 : Only [wb, rb] w (w.setRow wb (wC 0)) := (Only.refl _ _).setRow (by simp) _
  have r0 : Blk (w.setRow wb (wC 0)) rb #[.int .u64 0] 132 := hr.only (Only.setRow (Only.refl [wb] w) (by simp) _) (by simp; omega)
  have HS := Lib.hid hs
  have HM := Lib.hid hm
  have HT := Lib.hid hT
  have W0 := Lib.hid w0
  have O0 := Lib.hid o0
  have R0 := Lib.hid r0
  have HD := Lib.hid hd
  have H4 := Lib.hid h4
  have H0 := Lib.hid h0
  clear hs hm hT w0 o0 r0 hd h0 h4 hw hr
  go_enter Tryz.func84, Tryz.ntmps84
  go_wp2_with (first
    | (go_at_call 58; refine (blocks1 _).mono ?_; rintro e w1 ⟨rfl, hB⟩; (have HB := Lib.hid hB); clear hB))
  clear c0 hcl
  go_loopw [22] (fun c wr => ∃ k : Nat, k ≤ 16 ∧ c = .int .i64 k ∧ Blk wr wb (wC 0) 3 ∧ Blk wr rb #[.int .u64 (rowK k)] 132 ∧ Only [wb, rb] w wr) (fun c _ => 16 - (intOf c).toNat)
  case atStart =>
    refine ⟨0, by omega, rfl, ?_, ?_, ?_⟩
    · exact W0.out.below W0.out.lt HB.out
    · rw [rowK_0]; exact R0.out.below R0.out.lt HB.out
    · exact O0.out.trans (Only.of_below HB.out)
  case round =>
    obtain ⟨k, hk, rfl, hw1, hr1, ho⟩ := hrel
    by_cases hlt : k < 16
    · have hd := HD.out
      have hsr := HS.out.only ho (by simp; omega)
      have hmr := HM.out.only ho (by simp; omega)
      have c4 : wr.cell? ⟨sb, 4, none⟩ = some (.pointer (some ⟨mb, 0, none⟩)) := by rw [hsr.cell]; exact H4.out
      have hi0 : (0 : Int) ≤ (k : Int) := by omega
      have hi16 : (k : Int) < 16 := by omega
      have HSR := Lib.hid hsr
      have HMR := Lib.hid hmr
      have W1 := Lib.hid hw1
      have R1 := Lib.hid hr1
      have O1 := Lib.hid ho
      clear hsr hmr hw1 hr1 ho hd
      go_wp2_with fail
      have hwk : IntKind.i64.wrap ((k : Int) * 4) = (k : Int) * 4 := IntWalk.i64_in _ (by omega)
      go_region_with (first
        | (go_at_call 120; refine (start1 _ _ (by omega) (by omega)).mono ?_; rintro e w2 ⟨rfl, hB2⟩; (have c4' : w2.cell? ⟨sb, 4, none⟩ = some (.pointer (some ⟨mb, 0, none⟩)) := by (rw [(HSR.out.drew.below HSR.out.lt hB2).cell]; exact H4.out)); (have HB2 := Lib.hid hB2); clear hB2)
        | (go_at_call 42; refine (set1x mb rb (4 * k) _ (rowK k) _ (by omega) (by omega) (HMR.out.drew.below HMR.out.lt HB2.out) (R1.out.drew.below R1.out.lt HB2.out)).mono ?_; rintro e w3 ⟨rfl, hr3, ho3⟩; (have R3 := Lib.hid hr3); (have O3 := Lib.hid ho3); clear hr3 ho3))
      all_goals
        clear hwk
        go_wp2_with fail
        go_roundw
        case rel =>
          have hd := HD.out
          have o2 : Only [wb, rb] wr w2 := Only.trans (Only.drew (Only.refl _ _)) (Only.of_below HB2.out)
          refine ⟨k + 1, by omega, by go_num, ?_, ?_, ?_⟩
          · exact (W1.out.drew.below W1.out.lt HB2.out).only O3.out (by simp; omega)
          · rw [← rowK_next k (by omega)]; exact R3.out
          · exact (O1.out.trans o2).trans (O3.out.mono (by simp))
        case measure => simp [intOf]; omega
    · obtain rfl : k = 16 := by omega
      rw [rowK_16] at hr1
      have W1 := Lib.hid hw1
      have R1 := Lib.hid hr1
      have O1 := Lib.hid ho
      clear hw1 hr1 ho
      go_wp2_with (first
        | (go_at_call 58; refine (blocks1 _).mono ?_; rintro e w2 ⟨rfl, hB2⟩; (have HB2 := Lib.hid hB2); clear hB2))
      go_loopw [40] (fun c wr => ∃ k : Nat, k ≤ 16 ∧ c = .int .i64 k ∧ Blk wr wb (wC k) 3 ∧ Blk wr rb #[.int .u64 RF] 132 ∧ Only [wb, rb] w wr) (fun c _ => 16 - (intOf c).toNat)
      case atStart =>
        refine ⟨0, by omega, rfl, ?_, ?_, ?_⟩
        · exact W1.out.below W1.out.lt HB2.out
        · exact R1.out.below R1.out.lt HB2.out
        · exact O1.out.trans (Only.of_below HB2.out)
      case round =>
        obtain ⟨k, hk, rfl, hw1, hr1, ho⟩ := hrel
        by_cases hlt : k < 16
        · have hd := HD.out
          have hsr := HS.out.only ho (by simp; omega)
          have hmr := HM.out.only ho (by simp; omega)
          have htr := HT.out.only ho (by simp; omega)
          have HSR := Lib.hid hsr
          have HMR := Lib.hid hmr
          have HTR := Lib.hid htr
          have W2 := Lib.hid hw1
          have R2 := Lib.hid hr1
          have O2 := Lib.hid ho
          have hi0 : (0 : Int) ≤ (k : Int) := by omega
          have hi16 : (k : Int) < 16 := by omega
          clear hsr hmr htr hw1 hr1 ho hd
          go_wp2_with (first
            | (go_at_call 120; refine (start1 _ _ (by omega) (by omega)).mono ?_; rintro e w4 ⟨rfl, hB4⟩; (have HB4 := Lib.hid hB4); clear hB4))
          have s4 := HSR.out.below HSR.out.lt HB4.out
          have m4 := HMR.out.below HMR.out.lt HB4.out
          have r4 := R2.out.below R2.out.lt HB4.out
          have x4 := W2.out.below W2.out.lt HB4.out
          have t4 := HTR.out.only (Only.of_below (S := []) HB4.out) (by simp)
          have c0 : w4.cell? ⟨sb, 0, none⟩ = some (.slice (some ⟨wb, 0, none⟩) 64 64) := by rw [s4.cell]; exact H0.out
          have c4 : w4.cell? ⟨sb, 4, none⟩ = some (.pointer (some ⟨mb, 0, none⟩)) := by rw [s4.cell]; exact H4.out
          have M4 := Lib.hid m4
          have RR4 := Lib.hid r4
          have X4 := Lib.hid x4
          have T4 := Lib.hid t4
          have C4 := Lib.hid c4
          clear s4 m4 r4 x4 t4 c4
          have d4 : w4.cell? ⟨wb, k * 4, none⟩ = some (.int .i64 0) := by rw [X4.out.cell]; exact wC_at k hlt
          have f4 : w4.frozen? ⟨wb, k * 4, none⟩ = false := X4.out.free _
          have hlink := (link1x sb mb rb (4 * k) ((k : Int) * 4) RF w4.drew (by omega) T4.out (by omega) C4.out M4.out.drew RR4.out.drew (RF_pos _ (by omega))).mono fun _ _ => NextPost.only
          have ho5 : ∀ w5, Only [] w4.drew w5 → w5.cell? ⟨wb, k * 4, none⟩ = some (.int .i64 0) ∧ w5.frozen? ⟨wb, k * 4, none⟩ = false ∧ w5.cell? ⟨sb, 0, none⟩ = some (.slice (some ⟨wb, 0, none⟩) 64 64) := by
            intro w5 h5
            refine ⟨?_, ?_, ?_⟩
            · rw [(X4.out.drew.only h5 (by simp)).cell]; exact wC_at k hlt
            · exact (X4.out.drew.only h5 (by simp)).free _
            · rw [← c0]
              exact World.cell?_of_block (w := w4) (h5.block sb (World.block_lt_of_cell? w4 ⟨sb, 0, none⟩ c0) (by simp))
          have HL := Lib.hid hlink
          have HO := Lib.hid ho5
          clear hlink ho5
          go_region_with (first
            | (go_at_call 71; refine HL.out.mono ?_; rintro e w5 ⟨rfl, h5⟩; obtain ⟨d5, f5, c5⟩ := HO.out w5 h5; (have O5 := Lib.hid h5); clear h5))
          all_goals
            go_wp2_with fail
            go_roundw
            case rel =>
              have hd := HD.out
              have x5 := X4.out.drew.only O5.out (by simp)
              have r5 := RR4.out.drew.only O5.out (by simp)
              have o4 : Only [wb, rb] wr w4 := Only.of_below HB4.out
              have o5 : Only [wb, rb] w4 w5 := Only.trans (Only.drew (Only.refl _ _)) (O5.out.mono (by simp))
              refine ⟨k + 1, by omega, by go_num, ?_, ?_, ?_⟩
              · rw [← wC_next k hlt]
                have := x5.setCell_same (k * 4) (.int .i64 (lk RF (4 * k)))
                rwa [Nat.mul_comm k 4] at this ⊢
              · exact r5.setCell_other (by simp; omega) _
              · exact ((O2.out.trans o4).trans o5).setCell (by simp) _
            case measure => simp [intOf]; omega
        · obtain rfl : k = 16 := by omega
          go_wp2_with fail
          go_end0
          exact ⟨rfl, hw1, hr1, ho⟩
end Go.Proofs.YtkkkfaifkmmhpaaGreatDoor
