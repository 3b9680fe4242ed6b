/- append at a step of the walk; pages.All; the dump of the space. -/
import Derived.Test.YtkkkfaifkmmhpaaGreatDoorP
import Derived.Deep.AppendLies
namespace Go.Proofs.YtkkkfaifkmmhpaaGreatDoor
open Go.RowKit
set_option maxRecDepth 100000

section
variable {P : Program} (w : World)

theorem wp_append_row {o : Oper} {a : Act} {K : Act → World → Prop} {Q : Exit → Act → World → Prop} (s x : Operand) (t : TypeId)
    (ho : o.op = .call { callee := .builtin .append, args := #[s, x], argTypes := #[t, t] })
    (te : TypeId) (i : TypeInfo) (z : Value) (sz bytes : Nat) (ht : P.underlying t = some (.slice te)) (hi : P.info? te = some i) (hz : i.zero = some z)
    (hsize : i.size = sz) (hby : i.bytes = bytes) (hzs : z.cells.size = sz) (hsz : 0 < sz) (el : Nat → Value) (h1 : ∀ t, (el t).oneCell' = true)
    (v : Value) (len : Nat) (hs : a.eval s = v) (hv : Row w te sz el v len) (ad : Addr) (m c : Nat) (hx : a.eval x = .slice (some ad) m c) (hm : 0 < m) (hcell : ∀ j, j < m * sz → w.cell? (ad.add j) = some (el (len * sz + j)))
    (h63 : len + m ≤ maxLen) (hbytes : (len + m) * bytes ≤ 140737488355328)
    (h : ∀ g cap w', Appended w w' te sz el v (.slice (some ⟨g, 0, none⟩) (len + m) cap) (len + m) → K (a.put o.dst (.slice (some ⟨g, 0, none⟩) (len + m) cap)) w') : o.wp P a w K Q := by
  obtain ⟨g, cap, w', hr, h2⟩ := run_append_row (P := P) w t o.type te i z sz bytes ht hi hz hsize hby hzs hsz el h1 v len hv ad m c hm hcell h63 hbytes
  unfold Oper.wp execOp
  simp only [ho, resolve, invoke, builtin, Sem.run_bind, Sem.run_pure, Result.andThen_ok, List.map_toArray, List.map_cons, List.map_nil, hs, hx, hr]
  exact h g cap w' h2

theorem wpList_append_row {ops : Array Oper} {rest : List Oper} {o : Oper} {a : Act} {Q : Exit → Act → World → Prop} (hgd : o.guard = none) (s x : Operand) (t : TypeId)
    (ho : o.op = .call { callee := .builtin .append, args := #[s, x], argTypes := #[t, t] })
    (te : TypeId) (i : TypeInfo) (z : Value) (sz bytes : Nat) (ht : P.underlying t = some (.slice te)) (hi : P.info? te = some i) (hz : i.zero = some z)
    (hsize : i.size = sz) (hby : i.bytes = bytes) (hzs : z.cells.size = sz) (hsz : 0 < sz) (el : Nat → Value) (h1 : ∀ t, (el t).oneCell' = true)
    (v : Value) (len : Nat) (hs : a.eval s = v) (hv : Row w te sz el v len) (ad : Addr) (m c : Nat) (hx : a.eval x = .slice (some ad) m c) (hm : 0 < m) (hcell : ∀ j, j < m * sz → w.cell? (ad.add j) = some (el (len * sz + j)))
    (h63 : len + m ≤ maxLen) (hbytes : (len + m) * bytes ≤ 140737488355328)
    (h : ∀ g cap w', Appended w w' te sz el v (.slice (some ⟨g, 0, none⟩) (len + m) cap) (len + m) → wpList P ops Q rest (a.put o.dst (.slice (some ⟨g, 0, none⟩) (len + m) cap)) w') : wpList P ops Q (o :: rest) a w :=
  wpList_plain hgd fun _ hK => wp_append_row w s x t ho te i z sz bytes ht hi hz hsize hby hzs hsz el h1 v len hs hv ad m c hx hm hcell h63 hbytes fun g cap w' h2 => hK _ _ (h g cap w' h2)

theorem step_append_row {ops : Array Oper} {o : Oper} {a : Act} {K : Act → World → Prop} {Q : Exit → Act → World → Prop} {E : Prop} (hgd : o.guard = none) (s x : Operand) (t : TypeId)
    (ho : o.op = .call { callee := .builtin .append, args := #[s, x], argTypes := #[t, t] })
    (te : TypeId) (i : TypeInfo) (z : Value) (sz bytes : Nat) (ht : P.underlying t = some (.slice te)) (hi : P.info? te = some i) (hz : i.zero = some z)
    (hsize : i.size = sz) (hby : i.bytes = bytes) (hzs : z.cells.size = sz) (hsz : 0 < sz) (el : Nat → Value) (h1 : ∀ t, (el t).oneCell' = true)
    (v : Value) (len : Nat) (hs : a.eval s = v) (hv : Row w te sz el v len) (ad : Addr) (m c : Nat) (hx : a.eval x = .slice (some ad) m c) (hm : 0 < m) (hcell : ∀ j, j < m * sz → w.cell? (ad.add j) = some (el (len * sz + j)))
    (h63 : len + m ≤ maxLen) (hbytes : (len + m) * bytes ≤ 140737488355328)
    (h : ∀ g cap w', Appended w w' te sz el v (.slice (some ⟨g, 0, none⟩) (len + m) cap) (len + m) → K (a.put o.dst (.slice (some ⟨g, 0, none⟩) (len + m) cap)) w') :
    if Region.wanted o (yielded ops a.tmps) = true then Oper.wp P o a w K Q else E := by
  have hw : Region.wanted o (yielded ops a.tmps) = true := by simp [Region.wanted, hgd]
  rw [if_pos hw]
  exact wp_append_row w s x t ho te i z sz bytes ht hi hz hsize hby hzs hsz el h1 v len hs hv ad m c hx hm hcell h63 hbytes h
end

/-- Cells that are all nought. -/
abbrev el0 : Nat → Value := fun _ => .int .i64 0

theorem Only.undrew {S : List Nat} {w w' : World} (h : Only S w.drew w') : Only S w w' := ⟨h.os, h.tape, h.output, h.size, h.block⟩
theorem Row.drew {w : World} {te : TypeId} {sz : Nat} {el : Nat → Value} {v : Value} {len : Nat} (h : Row w te sz el v len) : Row w.drew te sz el v len := h

theorem Blk.srcZ {w : World} {b m sz n : Nat} {t : TypeId} (hb : Blk w b (madeCells (Array.replicate sz (.int .i64 0)) (m * sz)) t) (hsz : 0 < sz) : ∀ j, j < m * sz → w.cell? ((⟨b, 0, none⟩ : Addr).add j) = some (el0 (n + j)) := by
  intro j hj
  rw [add0, hb.cell]
  exact madeCells_zero sz _ _ hj hsz

/-- What a list of noughts in new memory is. -/
structure NewRow (w w' : World) (te : TypeId) (sz : Nat) (v : Value) (len : Nat) : Prop where
  row : Row w' te sz el0 v len
  new : ∀ b, v.ownBlock = some b → w.heap.size ≤ b
  some : v.ownBlock ≠ none

set_option maxHeartbeats 400000 in
theorem tableAll (N n : Nat) (w : World) (h1 : 1 ≤ n) (h2 : n ≤ 24) (hpg : Blk w N (zPages n) 139) (htb : w.cell? ⟨N + 1, 0, none⟩ = some (.slice (some ⟨N, 0, none⟩) n n)) :
    Calls Tryz.prog 79 #[.pointer (some ⟨N + 1, 0, none⟩)] w fun e w' => ∃ g cap, e = .returned (.slice (some ⟨g, 0, none⟩) n cap) ∧ Appended w w' 139 3 el0 (.slice none 0 0) (.slice (some ⟨g, 0, none⟩) n cap) n := by
  obtain ⟨i, hi, hz, hs, hb⟩ := info_parts Tryz.info139
  have P1 := Lib.hid hpg
  clear hpg
  go_enter Tryz.func79, Tryz.ntmps79
  go_wp2_with (at_builtin; refine wpList_append_row _ rfl _ _ 67 rfl 139 i (.agg #[.int .i64 0, .int .i64 0, .int .i64 0]) 3 24 Tryz.underlying67 hi hz hs hb rfl (by decide) el0 (fun _ => rfl) (.slice none 0 0) 0 rfl (Row.nil _ _ _ _) ⟨N, 0, none⟩ n n rfl (by omega) (Blk.srcZ (sz := 3) P1.out (by decide)) (by simp [maxLen]; omega) (by omega) ?_; intro g cap w1 ha; (have A := Lib.hid ha); clear ha)
  go_ret
  simp only [Nat.zero_add] at A
  exact ⟨g, cap, by simp, A.out⟩
end Go.Proofs.YtkkkfaifkmmhpaaGreatDoor
