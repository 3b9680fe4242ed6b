/- keep: a list of lists with their signs: what is told of it before a marking and behind it. -/
import Derived.Test.YtkkkfaifkmmhpaaGreatDoorV
namespace Go.Proofs.YtkkkfaifkmmhpaaGreatDoor
open Go.RowKit
set_option maxRecDepth 100000

theorem Row.form {w : World} {te : TypeId} {sz : Nat} {el : Nat → Value} {v : Value} {len : Nat} (h : Row w te sz el v len) : ∃ a c, v = .slice a len c := by
  rcases h with ⟨rfl, rfl⟩ | ⟨g, cap, cur, rfl, _⟩
  · exact ⟨_, _, rfl⟩
  · exact ⟨_, _, rfl⟩
theorem Row.one {w : World} {te : TypeId} {sz : Nat} {el : Nat → Value} {v : Value} {len : Nat} (h : Row w te sz el v len) : v.oneCell' = true := by
  obtain ⟨a, c, rfl⟩ := h.form
  rfl

/-- The list of lists fv and the list of signs sv, n long: each list holds its sign and nothing else. -/
def FullSt (q : Kind3) (w : World) (n : Nat) (fv sv : Value) (own : Nat → Prop) : Prop :=
  ∃ (F : Nat → Value) (L : Nat → Nat) (M : Nat → Int), Row w q.tf 1 F fv n ∧ Row w 3 1 (fun i => .int .i64 (M i)) sv n ∧ (∀ i, i < n → Row w q.te q.sz (q.el (M i)) (F i) (L i)) ∧
    (∀ x, fv.ownBlock = some x → own x) ∧ (∀ x, sv.ownBlock = some x → own x) ∧ (∀ i x, i < n → (F i).ownBlock = some x → own x) ∧ (∀ i x, i < n → (F i).ownBlock = some x → sv.ownBlock ≠ some x) ∧ (∀ i, (F i).oneCell' = true)

theorem FullSt.nil (q : Kind3) (w : World) (own : Nat → Prop) : FullSt q w 0 (.slice none 0 0) (.slice none 0 0) own :=
  ⟨fun _ => .slice none 0 0, fun _ => 0, fun _ => 0, Row.nil _ _ _ _, Row.nil _ _ _ _, fun i hi => by omega, fun x hx => by simp [Value.ownBlock] at hx, fun x hx => by simp [Value.ownBlock] at hx, fun i x hi => by omega, fun i x hi => by omega, fun _ => rfl⟩

theorem FullSt.same {q : Kind3} {w w' : World} {n : Nat} {fv sv : Value} {own : Nat → Prop} (h : FullSt q w n fv sv own) (hw : ∀ x, own x → w'.heap[x]? = w.heap[x]?) : FullSt q w' n fv sv own := by
  obtain ⟨F, L, M, f, s, l, fo, so, lo, ls, one⟩ := h
  exact ⟨F, L, M, f.same fun b hb => hw b (fo b hb), s.same fun b hb => hw b (so b hb), fun i hi => (l i hi).same fun b hb => hw b (lo i b hi hb), fo, so, lo, ls, one⟩

/-- What a marking may change. -/
structure Frame1 (w0 : World) (own0 : Nat → Prop) (p : Nat) (lv : Value) (u : World) : Prop where
  os : u.os = w0.os
  tape : u.tape = w0.tape
  output : u.output = w0.output
  size : w0.heap.size ≤ u.heap.size
  block : ∀ x, x < w0.heap.size → x ≠ p → ¬ own0 x → lv.ownBlock ≠ some x → u.heap[x]? = w0.heap[x]?

/-- What is owned behind it. -/
abbrev own1 (w0 w' : World) (own0 : Nat → Prop) (lv : Value) : Nat → Prop := fun x => own0 x ∨ lv.ownBlock = some x ∨ (w0.heap.size ≤ x ∧ x < w'.heap.size)

def MarkPost (q : Kind3) (w0 : World) (own0 : Nat → Prop) (p : Nat) (C : Array Value) (lv : Value) (n : Nat) (e : Ending) (w' : World) : Prop :=
  e = .returned (.tuple #[]) ∧ ∃ fv sv, Blk w' p (kcells q C fv sv) 45 ∧ FullSt q w' (n + 8) fv sv (own1 w0 w' own0 lv) ∧ Frame1 w0 own0 p lv w'

theorem St2.start {q : Kind3} (hq : q.Ok) {w0 u : World} {own0 : Nat → Prop} {p : Nat} {C : Array Value} {lv : Value} {len n : Nat} {m : Int} {fv sv : Value} (hf : FullSt q w0 n fv sv own0) (hown : ∀ x, own0 x → x < w0.heap.size)
    (hp : Blk w0 p C 45) (hCa : C[q.a]? = some fv) (hCb : C[q.b]? = some sv) (hl : Row u q.te q.sz (q.el m) lv len) (ho : Only lv.ownBlock.toList w0 u) (hlv : ∀ x, lv.ownBlock = some x → ¬ own0 x ∧ x < w0.heap.size) (hlp : lv.ownBlock ≠ some p) :
    St2 q w0 own0 p C lv len m u n fv sv := by
  obtain ⟨F, L, M, f, s, l, fo, so, lo, ls, one⟩ := hf
  have hne : ∀ x, own0 x → lv.ownBlock ≠ some x := fun x hx hx' => (hlv x hx').1 hx
  have hK : kcells q C fv sv = C := by
    unfold kcells
    obtain ⟨h1, h2⟩ := Array.getElem?_eq_some_iff.1 hCa
    obtain ⟨h3, h4⟩ := Array.getElem?_eq_some_iff.1 hCb
    have e1 : C.setIfInBounds q.a fv = C := by rw [← h2]; simp [Array.setIfInBounds, h1]
    rw [e1, ← h4]
    simp [Array.setIfInBounds, h3]
  refine ⟨⟨F, L, M, ⟨f.onlyV ho fun x hx => hne x (fo x hx), s.onlyV ho fun x hx => hne x (so x hx), fun i hi => (l i hi).onlyV ho fun x hx => hne x (lo i x hi hx), fun x hx => .inl (fo x hx), fun x hx => .inl (so x hx),
    fun i x hi hx => .inl (lo i x hi hx), ls, ?_, ho.os, ho.tape, ho.output, ho.size, ?_⟩, one⟩, ?_, hl, fun x hx => .inl hx, fun x hx hx' => (hlv x hx).1 (so x hx')⟩
  · intro i x hi hx hc
    rcases hc with hc | hc
    · exact absurd hc (hne x (lo i x hi hx))
    · have := hown x (lo i x hi hx); omega
  · intro x hx h1 h2 h3
    exact ho.block x hx fun hm => h3 (by cases hv : lv.ownBlock <;> simp_all)
  · rw [hK]
    exact hp.onlyV ho hlp

theorem St2.fin {q : Kind3} {w0 u : World} {own0 : Nat → Prop} {p : Nat} {C : Array Value} {lv : Value} {len n : Nat} {m : Int} {fv sv : Value} (h : St2 q w0 own0 p C lv len m u (n + 8) fv sv) : MarkPost q w0 own0 p C lv n (.returned (.tuple #[])) u := by
  obtain ⟨F, L, M, hi, one⟩ := h.inv
  refine ⟨rfl, fv, sv, h.kp, ⟨F, L, M, hi.f, hi.s, hi.l, ?_, ?_, ?_, hi.ls, one⟩, ⟨hi.os, hi.tape, hi.output, hi.size, hi.block⟩⟩
  · intro x hx
    rcases hi.fo x hx with h' | h'
    · exact .inl h'
    · exact .inr (.inr ⟨h', hi.f.lt hx⟩)
  · intro x hx
    rcases hi.so x hx with h' | h'
    · exact .inl h'
    · exact .inr (.inr ⟨h', hi.s.lt hx⟩)
  · intro i x hii hx
    rcases hi.lo i x hii hx with h' | h' | h'
    · exact .inl h'
    · exact .inr (.inl h')
    · exact .inr (.inr ⟨h', (hi.l i hii).lt hx⟩)

theorem St2.cells {q : Kind3} (hq : q.Ok) {w0 u : World} {own0 : Nat → Prop} {p : Nat} {C : Array Value} {lv : Value} {len n : Nat} {m : Int} {fv sv : Value} (hC : C.size = 14) (h : St2 q w0 own0 p C lv len m u n fv sv) :
    u.cell? ⟨p, q.a, none⟩ = some fv ∧ u.cell? ⟨p, q.b, none⟩ = some sv := by
  refine ⟨?_, ?_⟩
  · rw [h.kp.cell, Array.getElem?_setIfInBounds_ne (Ne.symm hq.ab)]
    simp [hC, hq.a14]
  · rw [h.kp.cell]
    have := hq.b14
    simp [kcells, hC, *]

theorem pow_le : ∀ e, e ≤ 7 → 2 ^ e ≤ 80 → e + 1 ≤ 7 := by decide
theorem pow_gt : ∀ e, e ≤ 7 → ¬ 2 ^ e ≤ 80 → e = 7 := by decide
theorem pow_top : ∀ e, e ≤ 7 → 2 ^ e ≤ 128 := by decide
theorem pow_pos' : ∀ e, e ≤ 7 → 1 ≤ 2 ^ e := by decide

theorem Tryz.info27 : (Tryz.prog.info? 27).map (fun i => (i.zero, i.size, i.bytes)) = some (some (.slice none 0 0), 1, 24) := by kernel_rfl
theorem Tryz.info67 : (Tryz.prog.info? 67).map (fun i => (i.zero, i.size, i.bytes)) = some (some (.slice none 0 0), 1, 24) := by kernel_rfl
theorem Tryz.info59 : (Tryz.prog.info? 59).map (fun i => (i.zero, i.size, i.bytes)) = some (some (.slice none 0 0), 1, 24) := by kernel_rfl

abbrev qW : Kind3 := ⟨3, 27, 39, 1, 8, 8, 11, fun m _ => .int .i64 m⟩
abbrev qP : Kind3 := ⟨139, 67, 40, 3, 24, 9, 12, fun m t => .int .i64 (if t % 3 = 0 then m else 0)⟩
abbrev qB : Kind3 := ⟨91, 59, 41, 5, 40, 10, 13, fun m t => .int .i64 (if t % 5 = 1 then m else 0)⟩

theorem qWok : qW.Ok := by
  obtain ⟨i, a1, a2, a3, a4⟩ := info_parts Tryz.info27
  obtain ⟨j, b1, b2, b3, b4⟩ := info_parts Tryz.info3
  exact ⟨fun _ _ => rfl, fun _ _ _ _ => rfl, by decide, by decide, by decide, by decide, by decide, by decide, by decide, ⟨i, Tryz.underlying39, a1, a2, a3, a4⟩, ⟨j, _, Tryz.underlying27, b1, b2, b3, b4, rfl, by decide, by decide⟩⟩
theorem qPok : qP.Ok := by
  obtain ⟨i, a1, a2, a3, a4⟩ := info_parts Tryz.info67
  obtain ⟨j, b1, b2, b3, b4⟩ := info_parts Tryz.info139
  refine ⟨fun _ _ => rfl, fun m k j _ => ?_, by decide, by decide, by decide, by decide, by decide, by decide, by decide, ⟨i, Tryz.underlying40, a1, a2, a3, a4⟩, ⟨j, _, Tryz.underlying67, b1, b2, b3, b4, rfl, by decide, by decide⟩⟩
  show Value.int .i64 (if (k * 3 + j) % 3 = 0 then m else 0) = _
  rw [show (k * 3 + j) % 3 = j % 3 by omega]
theorem qBok : qB.Ok := by
  obtain ⟨i, a1, a2, a3, a4⟩ := info_parts Tryz.info59
  obtain ⟨j, b1, b2, b3, b4⟩ := info_parts Tryz.info91
  refine ⟨fun _ _ => rfl, fun m k j _ => ?_, by decide, by decide, by decide, by decide, by decide, by decide, by decide, ⟨i, Tryz.underlying41, a1, a2, a3, a4⟩, ⟨j, _, Tryz.underlying59, b1, b2, b3, b4, rfl, by decide, by decide⟩⟩
  show Value.int .i64 (if (k * 5 + j) % 5 = 1 then m else 0) = _
  rw [show (k * 5 + j) % 5 = j % 5 by omega]
end Go.Proofs.YtkkkfaifkmmhpaaGreatDoor
