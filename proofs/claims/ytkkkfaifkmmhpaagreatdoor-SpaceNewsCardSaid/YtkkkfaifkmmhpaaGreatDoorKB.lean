/- keep: its three pairs of lists together, and what a marking leaves of them. -/
import Derived.Test.YtkkkfaifkmmhpaaGreatDoorKA
namespace Go.Proofs.YtkkkfaifkmmhpaaGreatDoor
open Go.RowKit
set_option maxRecDepth 100000

/-- Of the blocks that there were, only those of ex may have changed. -/
structure Fr (ex : Nat → Prop) (w w' : World) : Prop where
  os : w'.os = w.os
  tape : w'.tape = w.tape
  output : w'.output = w.output
  size : w.heap.size ≤ w'.heap.size
  block : ∀ x, x < w.heap.size → ¬ ex x → w'.heap[x]? = w.heap[x]?

theorem Fr.refl (ex : Nat → Prop) (w : World) : Fr ex w w := ⟨rfl, rfl, rfl, Nat.le_refl _, fun _ _ _ => rfl⟩
theorem Fr.of_only {w w' : World} (h : Only [] w w') (ex : Nat → Prop) : Fr ex w w' := ⟨h.os, h.tape, h.output, h.size, fun x hx _ => h.block x hx (by simp)⟩
theorem Fr.trans {ex ex' : Nat → Prop} {a b c : World} (h : Fr ex a b) (k : Fr ex' b c) (hex : ∀ x, x < a.heap.size → ex' x → ex x) : Fr ex a c :=
  ⟨k.os.trans h.os, k.tape.trans h.tape, k.output.trans h.output, Nat.le_trans h.size k.size, fun x hx hn => (k.block x (Nat.lt_of_lt_of_le hx h.size) (fun e => hn (hex x hx e))).trans (h.block x hx hn)⟩
theorem Fr.mono {ex ex' : Nat → Prop} {a b : World} (h : Fr ex a b) (hex : ∀ x, x < a.heap.size → ex x → ex' x) : Fr ex' a b :=
  ⟨h.os, h.tape, h.output, h.size, fun x hx hn => h.block x hx fun e => hn (hex x hx e)⟩
theorem Row.fr {ex : Nat → Prop} {w w' : World} {te : TypeId} {sz : Nat} {el : Nat → Value} {v : Value} {len : Nat} (h : Row w te sz el v len) (hf : Fr ex w w') (hn : ∀ b, v.ownBlock = some b → ¬ ex b) : Row w' te sz el v len :=
  h.same fun b hb => hf.block b (h.lt hb) (hn b hb)
theorem Blk.fr {ex : Nat → Prop} {w w' : World} {b : Nat} {c : Array Value} {t : TypeId} (h : Blk w b c t) (hf : Fr ex w w') (hn : ¬ ex b) : Blk w' b c t := by
  have := hf.block b h.lt hn
  unfold Blk at *
  rw [this]; exact h

/-- The keep's lists of lists, whole. -/
structure KSt (w : World) (p : Nat) (C : Array Value) (nW nP nB : Nat) (oW oP oB : Nat → Prop) : Prop where
  kp : Blk w p C 45
  size : C.size = 14
  fw : ∃ fa fc sa sc, C[8]? = some (.slice fa nW fc) ∧ C[11]? = some (.slice sa nW sc) ∧ FullSt qW w nW (.slice fa nW fc) (.slice sa nW sc) oW
  fp : ∃ fa fc sa sc, C[9]? = some (.slice fa nP fc) ∧ C[12]? = some (.slice sa nP sc) ∧ FullSt qP w nP (.slice fa nP fc) (.slice sa nP sc) oP
  fb : ∃ fa fc sa sc, C[10]? = some (.slice fa nB fc) ∧ C[13]? = some (.slice sa nB sc) ∧ FullSt qB w nB (.slice fa nB fc) (.slice sa nB sc) oB
  bd : ∀ x, oW x ∨ oP x ∨ oB x → x < w.heap.size ∧ x ≠ p
  dis : ∀ x, ¬ (oW x ∧ oP x) ∧ ¬ (oW x ∧ oB x) ∧ ¬ (oP x ∧ oB x)

theorem KSt.hold {w : World} {p : Nat} {C : Array Value} {nW nP nB : Nat} {oW oP oB : Nat → Prop} (h : KSt w p C nW nP nB oW oP oB) : HoldIn w p C nW nP nB := by
  obtain ⟨a1, a2, a3, a4, a5, a6, a7⟩ := h.fw
  obtain ⟨b1, b2, b3, b4, b5, b6, b7⟩ := h.fp
  obtain ⟨c1, c2, c3, c4, c5, c6, c7⟩ := h.fb
  exact ⟨h.kp, ⟨a1, a2, a3, a4, oW, a5, a6, a7⟩, ⟨b1, b2, b3, b4, oP, b5, b6, b7⟩, ⟨c1, c2, c3, c4, oB, c5, c6, c7⟩⟩

/-- A change that leaves the keep and what it owns. -/
theorem KSt.fr {w w' : World} {p : Nat} {C : Array Value} {nW nP nB : Nat} {oW oP oB ex : Nat → Prop} (h : KSt w p C nW nP nB oW oP oB) (hf : Fr ex w w') (hp : ¬ ex p) (hn : ∀ x, oW x ∨ oP x ∨ oB x → ¬ ex x) : KSt w' p C nW nP nB oW oP oB := by
  have hb : ∀ x, oW x ∨ oP x ∨ oB x → w'.heap[x]? = w.heap[x]? := fun x hx => hf.block x (h.bd x hx).1 (hn x hx)
  obtain ⟨a1, a2, a3, a4, a5, a6, a7⟩ := h.fw
  obtain ⟨b1, b2, b3, b4, b5, b6, b7⟩ := h.fp
  obtain ⟨c1, c2, c3, c4, c5, c6, c7⟩ := h.fb
  exact ⟨h.kp.fr hf hp, h.size, ⟨a1, a2, a3, a4, a5, a6, a7.same fun x hx => hb x (.inl hx)⟩, ⟨b1, b2, b3, b4, b5, b6, b7.same fun x hx => hb x (.inr (.inl hx))⟩, ⟨c1, c2, c3, c4, c5, c6, c7.same fun x hx => hb x (.inr (.inr hx))⟩,
    fun x hx => ⟨Nat.lt_of_lt_of_le (h.bd x hx).1 hf.size, (h.bd x hx).2⟩, h.dis⟩

theorem kcells_get (q : Kind3) (C : Array Value) (f s : Value) (i : Nat) (ha : q.a ≠ i) (hb : q.b ≠ i) : (kcells q C f s)[i]? = C[i]? := by
  unfold kcells
  rw [Array.getElem?_setIfInBounds_ne hb, Array.getElem?_setIfInBounds_ne ha]
theorem kcells_ga (q : Kind3) (hq : q.Ok) (C : Array Value) (f s : Value) (hC : C.size = 14) : (kcells q C f s)[q.a]? = some f := by
  unfold kcells
  rw [Array.getElem?_setIfInBounds_ne (Ne.symm hq.ab)]
  simp [hC, hq.a14]
theorem kcells_gb (q : Kind3) (hq : q.Ok) (C : Array Value) (f s : Value) (hC : C.size = 14) : (kcells q C f s)[q.b]? = some s := by
  unfold kcells
  have := hq.b14
  simp [hC, *]

/-- A marking of one kind, told of the whole. -/
def KMark (w : World) (p : Nat) (C : Array Value) (nW nP nB : Nat) (oW oP oB own : Nat → Prop) (lv : Value) (e : Ending) (w' : World) : Prop :=
  e = .returned (.tuple #[]) ∧ (∃ C', KSt w' p C' nW nP nB oW oP oB ∧ ∀ i, i < 8 → C'[i]? = C[i]?) ∧ Fr (fun x => x = p ∨ own x ∨ lv.ownBlock = some x) w w'

theorem Frame1.fr {w w' : World} {own : Nat → Prop} {p : Nat} {lv : Value} (h : Frame1 w own p lv w') : Fr (fun x => x = p ∨ own x ∨ lv.ownBlock = some x) w w' :=
  ⟨h.os, h.tape, h.output, h.size, fun x hx hn => h.block x hx (fun e => hn (.inl e)) (fun e => hn (.inr (.inl e))) (fun e => hn (.inr (.inr e)))⟩

theorem KSt.mark_qW {w : World} {p : Nat} {C : Array Value} {nW nP nB : Nat} {oW oP oB : Nat → Prop} {lv : Value} {e : Ending} {w' : World} (h : KSt w p C nW nP nB oW oP oB) (hlv : ∀ x, lv.ownBlock = some x → x < w.heap.size ∧ x ≠ p ∧ ¬ oP x ∧ ¬ oB x)
    (hm : MarkPost qW w oW p C lv nW e w') : KMark w p C (nW + 8) nP nB (own1 w w' oW lv) oP oB oW lv e w' := by
  obtain ⟨rfl, fv, sv, hk, hf, hfr⟩ := hm
  obtain ⟨a1, a2, a3, a4, a5, a6, a7⟩ := h.fp
  obtain ⟨b1, b2, b3, b4, b5, b6, b7⟩ := h.fb
  have hd := h.dis
  have hb := h.bd
  have keep : ∀ x, oP x ∨ oB x → w'.heap[x]? = w.heap[x]? := by
    intro x hx
    have hbx := hb x (by grind)
    refine hfr.block x hbx.1 hbx.2 (fun hx' => ?_) (fun hx' => ?_)
    · have := hd x
      grind
    · have := hlv x hx'
      grind
  obtain ⟨fa, fc, rfl⟩ : ∃ a c, fv = .slice a (nW + 8) c := by
    obtain ⟨F, L, M, f, _⟩ := hf
    exact f.form
  obtain ⟨sa, sc, rfl⟩ : ∃ a c, sv = .slice a (nW + 8) c := by
    obtain ⟨F, L, M, _, s, _⟩ := hf
    exact s.form
  have hmine : C.size = 14 := h.size
  refine ⟨rfl, ⟨_, ⟨hk, by simpa [kcells] using h.size, ?_, ?_, ?_, ?_, ?_⟩, fun i hi => kcells_get qW C _ _ i (by show (qW.a : Nat) ≠ i; simp; omega) (by show (qW.b : Nat) ≠ i; simp; omega)⟩, hfr.fr⟩
  · exact ⟨fa, fc, sa, sc, kcells_ga qW qWok C _ _ hmine, kcells_gb qW qWok C _ _ hmine, hf⟩
  · exact ⟨a1, a2, a3, a4, (kcells_get qW C _ _ _ (by decide) (by decide)).trans a5, (kcells_get qW C _ _ _ (by decide) (by decide)).trans a6, a7.same fun x hx => keep x (.inl hx)⟩
  · exact ⟨b1, b2, b3, b4, (kcells_get qW C _ _ _ (by decide) (by decide)).trans b5, (kcells_get qW C _ _ _ (by decide) (by decide)).trans b6, b7.same fun x hx => keep x (.inr hx)⟩
  · intro x hx
    have hp := h.kp.lt
    have hs := hfr.size
    have hbx := hb x
    have hl := hlv x
    simp only [own1] at hx
    by_cases hold : oW x ∨ oP x ∨ oB x
    · have := hbx hold
      exact ⟨by omega, this.2⟩
    · by_cases hlx : lv.ownBlock = some x
      · have := hl hlx
        exact ⟨by omega, this.2.1⟩
      · have : w.heap.size ≤ x ∧ x < w'.heap.size := by grind
        exact ⟨this.2, by omega⟩
  · intro x
    have hdx := hd x
    have hbx := hb x
    have hl := hlv x
    simp only [own1]
    by_cases hge : w.heap.size ≤ x
    · have h1 : ¬ (oW x ∨ oP x ∨ oB x) := fun hh => by have := (hbx hh).1; omega
      grind
    · grind

theorem KSt.mark_qP {w : World} {p : Nat} {C : Array Value} {nW nP nB : Nat} {oW oP oB : Nat → Prop} {lv : Value} {e : Ending} {w' : World} (h : KSt w p C nW nP nB oW oP oB) (hlv : ∀ x, lv.ownBlock = some x → x < w.heap.size ∧ x ≠ p ∧ ¬ oW x ∧ ¬ oB x)
    (hm : MarkPost qP w oP p C lv nP e w') : KMark w p C nW (nP + 8) nB oW (own1 w w' oP lv) oB oP lv e w' := by
  obtain ⟨rfl, fv, sv, hk, hf, hfr⟩ := hm
  obtain ⟨a1, a2, a3, a4, a5, a6, a7⟩ := h.fw
  obtain ⟨b1, b2, b3, b4, b5, b6, b7⟩ := h.fb
  have hd := h.dis
  have hb := h.bd
  have keep : ∀ x, oW x ∨ oB x → w'.heap[x]? = w.heap[x]? := by
    intro x hx
    have hbx := hb x (by grind)
    refine hfr.block x hbx.1 hbx.2 (fun hx' => ?_) (fun hx' => ?_)
    · have := hd x
      grind
    · have := hlv x hx'
      grind
  obtain ⟨fa, fc, rfl⟩ : ∃ a c, fv = .slice a (nP + 8) c := by
    obtain ⟨F, L, M, f, _⟩ := hf
    exact f.form
  obtain ⟨sa, sc, rfl⟩ : ∃ a c, sv = .slice a (nP + 8) c := by
    obtain ⟨F, L, M, _, s, _⟩ := hf
    exact s.form
  have hmine : C.size = 14 := h.size
  refine ⟨rfl, ⟨_, ⟨hk, by simpa [kcells] using h.size, ?_, ?_, ?_, ?_, ?_⟩, fun i hi => kcells_get qP C _ _ i (by show (qP.a : Nat) ≠ i; simp; omega) (by show (qP.b : Nat) ≠ i; simp; omega)⟩, hfr.fr⟩
  · exact ⟨a1, a2, a3, a4, (kcells_get qP C _ _ _ (by decide) (by decide)).trans a5, (kcells_get qP C _ _ _ (by decide) (by decide)).trans a6, a7.same fun x hx => keep x (.inl hx)⟩
  · exact ⟨fa, fc, sa, sc, kcells_ga qP qPok C _ _ hmine, kcells_gb qP qPok C _ _ hmine, hf⟩
  · exact ⟨b1, b2, b3, b4, (kcells_get qP C _ _ _ (by decide) (by decide)).trans b5, (kcells_get qP C _ _ _ (by decide) (by decide)).trans b6, b7.same fun x hx => keep x (.inr hx)⟩
  · intro x hx
    have hp := h.kp.lt
    have hs := hfr.size
    have hbx := hb x
    have hl := hlv x
    simp only [own1] at hx
    by_cases hold : oW x ∨ oP x ∨ oB x
    · have := hbx hold
      exact ⟨by omega, this.2⟩
    · by_cases hlx : lv.ownBlock = some x
      · have := hl hlx
        exact ⟨by omega, this.2.1⟩
      · have : w.heap.size ≤ x ∧ x < w'.heap.size := by grind
        exact ⟨this.2, by omega⟩
  · intro x
    have hdx := hd x
    have hbx := hb x
    have hl := hlv x
    simp only [own1]
    by_cases hge : w.heap.size ≤ x
    · have h1 : ¬ (oW x ∨ oP x ∨ oB x) := fun hh => by have := (hbx hh).1; omega
      grind
    · grind

theorem KSt.mark_qB {w : World} {p : Nat} {C : Array Value} {nW nP nB : Nat} {oW oP oB : Nat → Prop} {lv : Value} {e : Ending} {w' : World} (h : KSt w p C nW nP nB oW oP oB) (hlv : ∀ x, lv.ownBlock = some x → x < w.heap.size ∧ x ≠ p ∧ ¬ oW x ∧ ¬ oP x)
    (hm : MarkPost qB w oB p C lv nB e w') : KMark w p C nW nP (nB + 8) oW oP (own1 w w' oB lv) oB lv e w' := by
  obtain ⟨rfl, fv, sv, hk, hf, hfr⟩ := hm
  obtain ⟨a1, a2, a3, a4, a5, a6, a7⟩ := h.fw
  obtain ⟨b1, b2, b3, b4, b5, b6, b7⟩ := h.fp
  have hd := h.dis
  have hb := h.bd
  have keep : ∀ x, oW x ∨ oP x → w'.heap[x]? = w.heap[x]? := by
    intro x hx
    have hbx := hb x (by grind)
    refine hfr.block x hbx.1 hbx.2 (fun hx' => ?_) (fun hx' => ?_)
    · have := hd x
      grind
    · have := hlv x hx'
      grind
  obtain ⟨fa, fc, rfl⟩ : ∃ a c, fv = .slice a (nB + 8) c := by
    obtain ⟨F, L, M, f, _⟩ := hf
    exact f.form
  obtain ⟨sa, sc, rfl⟩ : ∃ a c, sv = .slice a (nB + 8) c := by
    obtain ⟨F, L, M, _, s, _⟩ := hf
    exact s.form
  have hmine : C.size = 14 := h.size
  refine ⟨rfl, ⟨_, ⟨hk, by simpa [kcells] using h.size, ?_, ?_, ?_, ?_, ?_⟩, fun i hi => kcells_get qB C _ _ i (by show (qB.a : Nat) ≠ i; simp; omega) (by show (qB.b : Nat) ≠ i; simp; omega)⟩, hfr.fr⟩
  · exact ⟨a1, a2, a3, a4, (kcells_get qB C _ _ _ (by decide) (by decide)).trans a5, (kcells_get qB C _ _ _ (by decide) (by decide)).trans a6, a7.same fun x hx => keep x (.inl hx)⟩
  · exact ⟨b1, b2, b3, b4, (kcells_get qB C _ _ _ (by decide) (by decide)).trans b5, (kcells_get qB C _ _ _ (by decide) (by decide)).trans b6, b7.same fun x hx => keep x (.inr hx)⟩
  · exact ⟨fa, fc, sa, sc, kcells_ga qB qBok C _ _ hmine, kcells_gb qB qBok C _ _ hmine, hf⟩
  · intro x hx
    have hp := h.kp.lt
    have hs := hfr.size
    have hbx := hb x
    have hl := hlv x
    simp only [own1] at hx
    by_cases hold : oW x ∨ oP x ∨ oB x
    · have := hbx hold
      exact ⟨by omega, this.2⟩
    · by_cases hlx : lv.ownBlock = some x
      · have := hl hlx
        exact ⟨by omega, this.2.1⟩
      · have : w.heap.size ≤ x ∧ x < w'.heap.size := by grind
        exact ⟨this.2, by omega⟩
  · intro x
    have hdx := hd x
    have hbx := hb x
    have hl := hlv x
    simp only [own1]
    by_cases hge : w.heap.size ≤ x
    · have h1 : ¬ (oW x ∨ oP x ∨ oB x) := fun hh => by have := (hbx hh).1; omega
      grind
    · grind

end Go.Proofs.YtkkkfaifkmmhpaaGreatDoor
