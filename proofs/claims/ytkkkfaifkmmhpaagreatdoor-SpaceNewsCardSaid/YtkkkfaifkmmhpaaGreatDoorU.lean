/- keep: lists and their marks: what holds while a list is marked and grown, and what each step leaves of it. -/
import Derived.Test.YtkkkfaifkmmhpaaGreatDoorT
namespace Go.Proofs.YtkkkfaifkmmhpaaGreatDoor
open Go.RowKit
set_option maxRecDepth 100000

theorem Row.typed {w : World} {te tf : TypeId} {sz sz' : Nat} {el el' : Nat → Value} {v v' : Value} {n n' : Nat} (h : Row w te sz el v n) (h' : Row w tf sz' el' v' n') (ht : te ≠ tf) {x : Nat} (hx : v.ownBlock = some x) : v'.ownBlock ≠ some x := by
  intro hx'
  rcases h with ⟨rfl, _⟩ | ⟨g, cap, cur, rfl, hg, _⟩
  · simp [Value.ownBlock] at hx
  · rcases h' with ⟨rfl, _⟩ | ⟨g', cap', cur', rfl, hg', _⟩
    · simp [Value.ownBlock] at hx'
    · simp [Value.ownBlock] at hx hx'
      subst hx
      subst hx'
      rw [hg] at hg'
      simp at hg'
      exact ht hg'.2

theorem Row.typedBlk {w : World} {te t : TypeId} {sz B : Nat} {el : Nat → Value} {v : Value} {n : Nat} {c : Array Value} (h : Row w te sz el v n) (hb : Blk w B c t) (ht : t ≠ te) : v.ownBlock ≠ some B := by
  intro hx
  rcases h with ⟨rfl, _⟩ | ⟨g, cap, cur, rfl, hg, _⟩
  · simp [Value.ownBlock] at hx
  · simp [Value.ownBlock] at hx
    subst hx
    unfold Blk at hb
    rw [hb] at hg
    simp at hg
    exact ht hg.2

/-- Only the blocks of v, of those that there were, have changed. -/
theorem Row.onlyV {w w' : World} {te : TypeId} {sz : Nat} {el : Nat → Value} {v u : Value} {n : Nat} (h : Row w te sz el v n) (ho : Only u.ownBlock.toList w w') (hne : ∀ x, v.ownBlock = some x → u.ownBlock ≠ some x) : Row w' te sz el v n :=
  h.only ho fun b hb hm => hne b hb (by cases hu : u.ownBlock <;> simp_all)

theorem Blk.onlyV {w w' : World} {b : Nat} {c : Array Value} {t : TypeId} {u : Value} (h : Blk w b c t) (ho : Only u.ownBlock.toList w w') (hne : u.ownBlock ≠ some b) : Blk w' b c t :=
  h.only ho fun hm => hne (by cases hu : u.ownBlock <;> simp_all)

/-- What holds while the list lv is marked by m and grown. -/
structure Inv (te tf : TypeId) (sz : Nat) (el : Int → Nat → Value) (w0 : World) (own0 : Nat → Prop) (p : Nat) (lv : Value) (m : Int) (u : World) (F : Nat → Value) (L : Nat → Nat) (M : Nat → Int) (nf ns : Nat) (fv sv : Value) : Prop where
  f : Row u tf 1 F fv nf
  s : Row u 3 1 (fun i => .int .i64 (M i)) sv ns
  l : ∀ i, i < ns → Row u te sz (el (M i)) (F i) (L i)
  fo : ∀ x, fv.ownBlock = some x → own0 x ∨ w0.heap.size ≤ x
  so : ∀ x, sv.ownBlock = some x → own0 x ∨ w0.heap.size ≤ x
  lo : ∀ i x, i < ns → (F i).ownBlock = some x → own0 x ∨ lv.ownBlock = some x ∨ w0.heap.size ≤ x
  ls : ∀ i x, i < ns → (F i).ownBlock = some x → sv.ownBlock ≠ some x
  cur : ∀ i x, i < ns → (F i).ownBlock = some x → (lv.ownBlock = some x ∨ w0.heap.size ≤ x) → M i = m
  os : u.os = w0.os
  tape : u.tape = w0.tape
  output : u.output = w0.output
  size : w0.heap.size ≤ u.heap.size
  block : ∀ x, x < w0.heap.size → x ≠ p → ¬ own0 x → lv.ownBlock ≠ some x → u.heap[x]? = w0.heap[x]?

/-- A list that is being grown. -/
structure Far (te : TypeId) (sz : Nat) (el : Int → Nat → Value) (w0 : World) (lv : Value) (m : Int) (sv : Value) (u : World) (v : Value) (k : Nat) : Prop where
  row : Row u te sz (el m) v k
  wh : ∀ x, v.ownBlock = some x → lv.ownBlock = some x ∨ w0.heap.size ≤ x
  ns : ∀ x, v.ownBlock = some x → sv.ownBlock ≠ some x

section
variable {te tf : TypeId} {sz : Nat} {el : Int → Nat → Value} {w0 : World} {own0 : Nat → Prop} {p : Nat} {lv : Value} {m : Int} {u u' : World} {F F' : Nat → Value} {L L' : Nat → Nat} {M M' : Nat → Int} {nf ns : Nat} {fv sv fv' sv' v v' : Value} {k : Nat} {K : Array Value}

theorem Inv.quiet (h : Inv te tf sz el w0 own0 p lv m u F L M nf ns fv sv) (ho : Only [] u u') : Inv te tf sz el w0 own0 p lv m u' F L M nf ns fv sv :=
  ⟨h.f.only ho (by simp), h.s.only ho (by simp), fun i hi => (h.l i hi).only ho (by simp), h.fo, h.so, h.lo, h.ls, h.cur, ho.os.trans h.os, ho.tape.trans h.tape, ho.output.trans h.output, Nat.le_trans h.size ho.size,
    fun x hx h1 h2 h3 => (ho.block x (Nat.lt_of_lt_of_le hx h.size) (by simp)).trans (h.block x hx h1 h2 h3)⟩
theorem Far.quiet (h : Far te sz el w0 lv m sv u v k) (ho : Only [] u u') : Far te sz el w0 lv m sv u' v k := ⟨h.row.only ho (by simp), h.wh, h.ns⟩

theorem Inv.set (h : Inv te tf sz el w0 own0 p lv m u F L M nf ns fv sv) (hp : Blk u p K 45) (h1 : te ≠ 45) (h2 : tf ≠ 45) (i : Nat) (x : Value) : Inv te tf sz el w0 own0 p lv m (u.setCell ⟨p, i, none⟩ x) F L M nf ns fv sv := by
  have o : Only [p] u (u.setCell ⟨p, i, none⟩ x) := (Only.refl _ _).setCell (by simp) _
  refine ⟨h.f.only o ?_, h.s.only o ?_, fun i hi => (h.l i hi).only o ?_, h.fo, h.so, h.lo, h.ls, h.cur, o.os.trans h.os, o.tape.trans h.tape, o.output.trans h.output, Nat.le_trans h.size o.size,
    fun x hx h1 h2 h3 => (o.block x (Nat.lt_of_lt_of_le hx h.size) (by simpa using h1)).trans (h.block x hx h1 h2 h3)⟩
  · intro b hb hm; simp at hm; subst hm; exact h.f.typedBlk hp (Ne.symm h2) hb
  · intro b hb hm; simp at hm; subst hm; exact h.s.typedBlk hp (by decide) hb
  · intro b hb hm; simp at hm; subst hm; exact (h.l i hi).typedBlk hp (Ne.symm h1) hb
theorem Far.set (h : Far te sz el w0 lv m sv u v k) (hp : Blk u p K 45) (h1 : te ≠ 45) (i : Nat) (x : Value) : Far te sz el w0 lv m sv (u.setCell ⟨p, i, none⟩ x) v k := by
  have o : Only [p] u (u.setCell ⟨p, i, none⟩ x) := (Only.refl _ _).setCell (by simp) _
  refine ⟨h.row.only o ?_, h.wh, h.ns⟩
  intro b hb hm; simp at hm; subst hm; exact h.row.typedBlk hp (Ne.symm h1) hb

/-- A list is laid into the list of lists. -/
theorem Inv.full (h : Inv te tf sz el w0 own0 p lv m u F L M nf ns fv sv) (ha : Appended u u' tf 1 F' fv fv' (nf + 1)) (ht : te ≠ tf) (ht3 : tf ≠ 3) (hF : ∀ i, i < ns → F' i = F i) (hL : ∀ i, i < ns → L' i = L i) (hM : ∀ i, i < ns → M' i = M i) :
    Inv te tf sz el w0 own0 p lv m u' F' L' M' (nf + 1) ns fv' sv := by
  refine ⟨ha.row, ?_, ?_, ?_, h.so, ?_, ?_, ?_, ha.only.os.trans h.os, ha.only.tape.trans h.tape, ha.only.output.trans h.output, Nat.le_trans h.size ha.only.size, ?_⟩
  · exact (h.s.onlyV ha.only fun x hx => h.s.typed h.f (Ne.symm ht3) hx).congr fun t ht => by rw [hM t (by omega)]
  · intro i hi
    rw [hF i hi, hL i hi, hM i hi]
    exact (h.l i hi).onlyV ha.only fun x hx => (h.l i hi).typed h.f ht hx
  · intro x hx
    rcases ha.loc with e | e
    · exact h.fo x (e ▸ hx)
    · rw [e] at hx; simp at hx; have := h.size; right; omega
  · intro i x hi hx; rw [hF i hi] at hx; exact h.lo i x hi hx
  · intro i x hi hx; rw [hF i hi] at hx; exact h.ls i x hi hx
  · intro i x hi hx hc; rw [hF i hi] at hx; rw [hM i hi]; exact h.cur i x hi hx hc
  · intro x hx h1 h2 h3
    refine (ha.only.block x (Nat.lt_of_lt_of_le hx h.size) fun hm => ?_).trans (h.block x hx h1 h2 h3)
    have e : fv.ownBlock = some x := by cases hf : fv.ownBlock <;> simp_all
    rcases h.fo x e with h' | h'
    · exact h2 h'
    · omega

/-- Its sign is laid into the list of signs. -/
theorem Inv.sign (h : Inv te tf sz el w0 own0 p lv m u F L M (ns + 1) ns fv sv) (hv : Far te sz el w0 lv m sv u (F ns) (L ns)) (hm : M ns = m) (ha : Appended u u' 3 1 (fun i => .int .i64 (M i)) sv sv' (ns + 1)) (ht3 : tf ≠ 3) :
    Inv te tf sz el w0 own0 p lv m u' F L M (ns + 1) (ns + 1) fv sv' := by
  have hl : ∀ i, i < ns + 1 → Row u te sz (el (M i)) (F i) (L i) := by
    intro i hi
    by_cases e : i = ns
    · subst e; rw [hm]; exact hv.row
    · exact h.l i (by omega)
  have hs : ∀ i x, i < ns + 1 → (F i).ownBlock = some x → sv.ownBlock ≠ some x := by
    intro i x hi hx
    by_cases e : i = ns
    · subst e; exact hv.ns x hx
    · exact h.ls i x (by omega) hx
  refine ⟨?_, ha.row, ?_, h.fo, ?_, ?_, ?_, ?_, ha.only.os.trans h.os, ha.only.tape.trans h.tape, ha.only.output.trans h.output, Nat.le_trans h.size ha.only.size, ?_⟩
  · exact h.f.onlyV ha.only fun x hx => h.f.typed h.s ht3 hx
  · intro i hi
    exact (hl i hi).onlyV ha.only fun x hx => hs i x hi hx
  · intro x hx
    rcases ha.loc with e | e
    · exact h.so x (e ▸ hx)
    · rw [e] at hx; simp at hx; have := h.size; right; omega
  · intro i x hi hx
    by_cases e : i = ns
    · subst e; exact .inr (hv.wh x hx)
    · exact h.lo i x (by omega) hx
  · intro i x hi hx
    rcases ha.loc with e | e
    · rw [e]; exact hs i x hi hx
    · rw [e]; have := (hl i hi).lt hx; intro e'; simp at e'; omega
  · intro i x hi hx hc
    by_cases e : i = ns
    · subst e; exact hm
    · exact h.cur i x (by omega) hx hc
  · intro x hx h1 h2 h3
    refine (ha.only.block x (Nat.lt_of_lt_of_le hx h.size) fun hm => ?_).trans (h.block x hx h1 h2 h3)
    have e : sv.ownBlock = some x := by cases hf : sv.ownBlock <;> simp_all
    rcases h.so x e with h' | h'
    · exact h2 h'
    · omega

/-- Behind that, a list that is marked by m is still. -/
theorem Far.sign (h : Far te sz el w0 lv m sv u v k) (ha : Appended u u' 3 1 (fun i => .int .i64 (M i)) sv sv' ns) : Far te sz el w0 lv m sv' u' v k := by
  refine ⟨h.row.onlyV ha.only fun x hx => h.ns x hx, h.wh, ?_⟩
  intro x hx
  rcases ha.loc with e | e
  · rw [e]; exact h.ns x hx
  · rw [e]; have := h.row.lt hx; intro e'; simp at e'; omega
theorem Far.full (h : Far te sz el w0 lv m sv u v k) (hf : Row u tf 1 F fv nf) (ht : te ≠ tf) (ha : Appended u u' tf 1 F' fv fv' (nf + 1)) : Far te sz el w0 lv m sv u' v k :=
  ⟨h.row.onlyV ha.only fun x hx => h.row.typed hf ht hx, h.wh, h.ns⟩

/-- The list is grown by one. -/
theorem Inv.far (h : Inv te tf sz el w0 own0 p lv m u F L M nf ns fv sv) (hv : Far te sz el w0 lv m sv u v k) (ha : Appended u u' te sz (el m) v v' (k + 1)) (ht : te ≠ tf) :
    Inv te tf sz el w0 own0 p lv m u' F L M nf ns fv sv := by
  refine ⟨?_, ?_, ?_, h.fo, h.so, h.lo, h.ls, h.cur, ha.only.os.trans h.os, ha.only.tape.trans h.tape, ha.only.output.trans h.output, Nat.le_trans h.size ha.only.size, ?_⟩
  · exact h.f.onlyV ha.only fun x hx => h.f.typed hv.row (Ne.symm ht) hx
  · exact h.s.onlyV ha.only fun x hx hx' => hv.ns x hx' hx
  · intro i hi
    by_cases e : ∃ x, (F i).ownBlock = some x ∧ v.ownBlock = some x
    · obtain ⟨x, hx, hx'⟩ := e
      have hM := h.cur i x hi hx (hv.wh x hx')
      rw [hM]
      exact ha.rows _ _ (hM ▸ h.l i hi)
    · exact (h.l i hi).onlyV ha.only fun x hx hx' => e ⟨x, hx, hx'⟩
  · intro x hx h1 h2 h3
    refine (ha.only.block x (Nat.lt_of_lt_of_le hx h.size) fun hm => ?_).trans (h.block x hx h1 h2 h3)
    have e : v.ownBlock = some x := by cases hf : v.ownBlock <;> simp_all
    rcases hv.wh x e with h' | h'
    · exact h3 h'
    · omega
theorem Far.far (hs : Row u 3 1 (fun i => .int .i64 (M i)) sv ns) (hw : w0.heap.size ≤ u.heap.size) (h : Far te sz el w0 lv m sv u v k) (ha : Appended u u' te sz (el m) v v' (k + 1)) : Far te sz el w0 lv m sv u' v' (k + 1) := by
  refine ⟨ha.row, ?_, ?_⟩
  · intro x hx
    rcases ha.loc with e | e
    · exact h.wh x (e ▸ hx)
    · rw [e] at hx; simp at hx; right; omega
  · intro x hx
    rcases ha.loc with e | e
    · exact h.ns x (e ▸ hx)
    · rw [e] at hx; simp at hx; intro hx'; have := hs.lt hx'; omega
theorem Far.other (h : Far te sz el w0 lv m sv u lv k) {k' : Nat} (ha : Appended u u' te sz (el m) v v' k') : Far te sz el w0 lv m sv u' lv k := ⟨ha.rows _ _ h.row, h.wh, h.ns⟩
end
end Go.Proofs.YtkkkfaifkmmhpaaGreatDoor
