/- keep: the lists that are left as they are. -/
import Derived.Test.YtkkkfaifkmmhpaaGreatDoorKC
namespace Go.Proofs.YtkkkfaifkmmhpaaGreatDoor
open Go.RowKit
set_option maxRecDepth 100000

/-- The element type of the list in the keep's cell c. -/
def tfOf (c : Nat) : TypeId := if c < 4 then 27 else if c < 6 then 67 else 59
def tlOf (c : Nat) : TypeId := if c < 4 then 39 else if c < 6 then 40 else 41

theorem tf_facts (c : Nat) : ∃ i, Tryz.prog.underlying (tlOf c) = some (.slice (tfOf c)) ∧ Tryz.prog.info? (tfOf c) = some i ∧ i.zero = some (.slice none 0 0) ∧ i.size = 1 ∧ i.bytes = 24 := by
  unfold tlOf tfOf
  by_cases h1 : c < 4
  · simp only [h1, if_true]
    exact qWok.ty
  · by_cases h2 : c < 6
    · simp only [h1, h2, if_true, if_false]
      exact qPok.ty
    · simp only [h1, h2, if_false]
      exact qBok.ty
theorem tf45 (c : Nat) : (45 : TypeId) ≠ tfOf c := by
  unfold tfOf
  by_cases h1 : c < 4
  · simp [h1]
  · by_cases h2 : c < 6
    · simp [h1, h2]
    · simp [h1, h2]

abbrev upN (nn : Nat → Nat) (c : Nat) : Nat → Nat := fun x => if x = c then nn x + 1 else nn x
abbrev upF (FF : Nat → Nat → Value) (nn : Nat → Nat) (c : Nat) (v : Value) : Nat → Nat → Value := fun x => if x = c then (fun j => if j = nn c then v else FF c j) else FF x

/-- The keep with its six lists that are left as they are. -/
structure QSt (w0 : World) (ok0 : Nat → Prop) (C0 : Array Value) (p : Nat) (u : World) (C : Array Value) (nn : Nat → Nat) (FF : Nat → Nat → Value) : Prop where
  kp : Blk u p C 45
  size : C.size = 14
  hi : ∀ i, (i < 2 ∨ 8 ≤ i) → C[i]? = C0[i]?
  row : ∀ c, 2 ≤ c → c < 8 → ∃ a k, C[c]? = some (.slice a (nn c) k) ∧ Row u (tfOf c) 1 (FF c) (.slice a (nn c) k) (nn c)
  one : ∀ c i, (FF c i).oneCell' = true
  ob : ∀ c x v, 2 ≤ c → c < 8 → C[c]? = some v → v.ownBlock = some x → ok0 x ∨ w0.heap.size ≤ x
  ne : ∀ c c' x v v', 2 ≤ c → c < 8 → 2 ≤ c' → c' < 8 → c ≠ c' → C[c]? = some v → C[c']? = some v' → v.ownBlock = some x → v'.ownBlock ≠ some x
  fr : Fr (fun x => x = p ∨ ok0 x) w0 u

theorem QSt.only {w0 u u' : World} {ok0 : Nat → Prop} {C0 C : Array Value} {p : Nat} {nn : Nat → Nat} {FF : Nat → Nat → Value} (h : QSt w0 ok0 C0 p u C nn FF) (ho : Only [] u u') : QSt w0 ok0 C0 p u' C nn FF :=
  ⟨h.kp.only ho (by simp), h.size, h.hi, fun c h1 h2 => by obtain ⟨a, k, e, r⟩ := h.row c h1 h2; exact ⟨a, k, e, r.only ho (by simp)⟩, h.one, h.ob, h.ne, h.fr.trans (Fr.of_only ho fun _ => False) (by simp)⟩

theorem QSt.push {w0 W w1 : World} {ok0 : Nat → Prop} {C0 C : Array Value} {p c g cap : Nat} {nn : Nat → Nat} {FF : Nat → Nat → Value} {v fv : Value} (h : QSt w0 ok0 C0 p W C nn FF) (h1 : 2 ≤ c) (h2 : c < 8) (hC : C[c]? = some fv) (hv : v.oneCell' = true) (hp0 : p < w0.heap.size)
    (ha : Appended W w1 (tfOf c) 1 (upF FF nn c v c) fv (.slice (some ⟨g, 0, none⟩) (nn c + 1) cap) (nn c + 1)) :
    QSt w0 ok0 C0 p (w1.setCell ⟨p, c, none⟩ (.slice (some ⟨g, 0, none⟩) (nn c + 1) cap)) (C.setIfInBounds c (.slice (some ⟨g, 0, none⟩) (nn c + 1) cap)) (upN nn c) (upF FF nn c v) ∧ Blk w1 p C 45 := by
  obtain ⟨a, k, e, r⟩ := h.row c h1 h2
  have efv : fv = .slice a (nn c) k := by rw [hC] at e; simpa using e
  have hfp : fv.ownBlock ≠ some p := by rw [efv]; exact r.typedBlk h.kp (tf45 c)
  have kp1 : Blk w1 p C 45 := h.kp.onlyV ha.only hfp
  have o2 : Only [p] w1 (w1.setCell ⟨p, c, none⟩ (.slice (some ⟨g, 0, none⟩) (nn c + 1) cap)) := (Only.refl _ _).setCell (by simp) _
  have hs := h.fr.size
  have hs1 := ha.only.size
  have gcase : fv.ownBlock = some g ∨ g = W.heap.size := by
    rcases ha.loc with h' | h'
    · left; rw [← h']; rfl
    · right; simpa [Value.ownBlock] using h'
  have gp : g ≠ p := by
    rcases gcase with h' | h'
    · rintro rfl; exact hfp h'
    · have := h.kp.lt; omega
  have old : ∀ i, i ≠ c → (C.setIfInBounds c (.slice (some ⟨g, 0, none⟩) (nn c + 1) cap))[i]? = C[i]? := fun i hi => by rw [Array.getElem?_setIfInBounds_ne (Ne.symm hi)]
  have new : (C.setIfInBounds c (.slice (some ⟨g, 0, none⟩) (nn c + 1) cap))[c]? = some (.slice (some ⟨g, 0, none⟩) (nn c + 1) cap) := Array.getElem?_setIfInBounds_self_of_lt (by rw [h.size]; omega)
  refine ⟨⟨kp1.setCell_same c _, by simpa using h.size, fun i hi => (old i (by omega)).trans (h.hi i hi), ?_, ?_, ?_, ?_, ?_⟩, kp1⟩
  · intro c' h1' h2'
    by_cases ec : c' = c
    · subst ec
      have en : upN nn c' c' = nn c' + 1 := by simp [upN]
      rw [en]
      exact ⟨some ⟨g, 0, none⟩, cap, new, ha.row.only o2 (by intro b hb; simp [Value.ownBlock] at hb; subst hb; simpa using gp)⟩
    · obtain ⟨a', k', e', r'⟩ := h.row c' h1' h2'
      have en : upN nn c c' = nn c' := by simp [upN, ec]
      have ef : upF FF nn c v c' = FF c' := by simp [upF, ec]
      rw [en, ef]
      refine ⟨a', k', by rw [old c' ec]; exact e', ?_⟩
      have r1 := r'.onlyV ha.only fun x hx hx' => h.ne c c' x fv _ h1 h2 h1' h2' (Ne.symm ec) hC e' hx' hx
      have r2 := r1.only o2 (by intro b hb hm; simp at hm; subst hm; exact r1.typedBlk kp1 (tf45 c') hb)
      exact r2
  · intro c' i
    by_cases ec : c' = c
    · subst ec
      simp only [upF, if_true]
      split
      · exact hv
      · exact h.one _ _
    · simp only [upF, if_neg ec]
      exact h.one _ _
  · intro c' x v' h1' h2' e' hx
    by_cases ec : c' = c
    · subst ec
      rw [new] at e'
      simp at e'
      subst e'
      simp [Value.ownBlock] at hx
      subst hx
      rcases gcase with h' | h'
      · exact h.ob c' _ fv h1 h2 hC h'
      · right; omega
    · rw [old c' ec] at e'
      exact h.ob c' x v' h1' h2' e' hx
  · intro c1 c2 x va vb a1 a2 b1 b2 hne ea eb hx hx'
    by_cases ec : c1 = c
    · subst ec
      rw [new] at ea
      simp at ea
      subst ea
      simp [Value.ownBlock] at hx
      subst hx
      rw [old c2 (Ne.symm hne)] at eb
      rcases gcase with h' | h'
      · exact h.ne c1 c2 _ fv vb a1 a2 b1 b2 hne hC eb h' hx'
      · obtain ⟨a', k', e', r'⟩ := h.row c2 b1 b2
        have : vb = .slice a' (nn c2) k' := by rw [e'] at eb; simpa using eb.symm
        subst this
        have := r'.lt hx'
        omega
    · rw [old c1 ec] at ea
      by_cases ec2 : c2 = c
      · subst ec2
        rw [new] at eb
        simp at eb
        subst eb
        simp [Value.ownBlock] at hx'
        subst hx'
        rcases gcase with h' | h'
        · exact h.ne c1 c2 _ va fv a1 a2 b1 b2 hne ea hC hx h'
        · obtain ⟨a', k', e', r'⟩ := h.row c1 a1 a2
          have : va = .slice a' (nn c1) k' := by rw [e'] at ea; simpa using ea.symm
          subst this
          have := r'.lt hx
          omega
      · rw [old c2 ec2] at eb
        exact h.ne c1 c2 x va vb a1 a2 b1 b2 hne ea eb hx hx'
  · have f1 : Fr (fun x => x = p ∨ ok0 x) w0 w1 := ⟨ha.only.os.trans h.fr.os, ha.only.tape.trans h.fr.tape, ha.only.output.trans h.fr.output, Nat.le_trans hs hs1, fun x hx hn => by
      refine (ha.only.block x (by omega) fun hm => ?_).trans (h.fr.block x hx hn)
      have : fv.ownBlock = some x := by cases hf : fv.ownBlock <;> simp_all
      rcases h.ob c x fv h1 h2 hC this with h' | h'
      · exact hn (.inr h')
      · omega⟩
    exact ⟨o2.os.trans f1.os, o2.tape.trans f1.tape, o2.output.trans f1.output, Nat.le_trans f1.size o2.size, fun x hx hn => (o2.block x (Nat.lt_of_lt_of_le hx f1.size) (by simp; exact fun e => hn (.inl e))).trans (f1.block x hx hn)⟩

theorem step_keep {ops : Array Oper} {o : Oper} {a : Act} {Kk : Act → World → Prop} {Q : Exit → Act → World → Prop} {E : Prop} {w0 u W : World} {ok0 : Nat → Prop} {C0 C : Array Value} {p bx : Nat} {nn : Nat → Nat} {FF : Nat → Nat → Value} {v fv : Value} (c : Nat)
    (h : QSt w0 ok0 C0 p u C nn FF) (hW : Only [] u W) (h1 : 2 ≤ c) (h2 : c < 8) (hC : C[c]? = some fv) (hv : v.oneCell' = true) (hp0 : p < w0.heap.size) (hn : nn c ≤ 1000)
    (hgd : o.guard = none) (s x : Operand) (tl t : TypeId) (htl : tl = tlOf c) (ht : t = tfOf c) (hb : Blk W bx #[v] t)
    (ho : o.op = .call { callee := .builtin .append, args := #[s, x], argTypes := #[tl, tl] }) (hs : a.eval s = fv) (hx : a.eval x = .slice (some ⟨bx, 0, none⟩) 1 1)
    (K : ∀ g cap w1, QSt w0 ok0 C0 p (w1.setCell ⟨p, c, none⟩ (.slice (some ⟨g, 0, none⟩) (nn c + 1) cap)) (C.setIfInBounds c (.slice (some ⟨g, 0, none⟩) (nn c + 1) cap)) (upN nn c) (upF FF nn c v) →
      (w1.cell? ⟨p, c, none⟩ = some fv ∧ w1.frozen? ⟨p, c, none⟩ = false) → Kk (a.put o.dst (.slice (some ⟨g, 0, none⟩) (nn c + 1) cap)) w1) :
    if Region.wanted o (yielded ops a.tmps) = true then Oper.wp Tryz.prog o a W Kk Q else E := by
  subst htl
  subst ht
  have hq := h.only hW
  obtain ⟨i, t1, t2, t3, t4, t5⟩ := tf_facts c
  obtain ⟨a', k', e, r⟩ := hq.row c h1 h2
  have efv : fv = .slice a' (nn c) k' := by rw [hC] at e; simpa using e
  refine step_append_row W hgd s x (tlOf c) ho (tfOf c) i (.slice none 0 0) 1 24 t1 t2 t3 t4 t5 rfl (by decide) (upF FF nn c v c) (fun j => by simp only [upF, if_true]; split; exact hv; exact h.one _ _) fv (nn c) hs (efv ▸ r.congr fun t ht => by simp only [upF, if_true]; rw [if_neg (by omega)])
    ⟨bx, 0, none⟩ 1 1 hx (by decide) ?_ (by simp [maxLen]; omega) (by omega) ?_
  · intro j hj
    obtain rfl : j = 0 := by omega
    rw [add0, hb.cell]
    simp [upF]
  · intro g cap w1 ha
    obtain ⟨hq2, kp1⟩ := hq.push h1 h2 hC hv hp0 ha
    exact K g cap w1 hq2 ⟨by rw [kp1.cell]; exact hC, kp1.free _⟩
end Go.Proofs.YtkkkfaifkmmhpaaGreatDoor
