/- pair.looked at kind 20: the pair between steps, and what each call of a step leaves of it. -/
import Derived.Test.YtkkkfaifkmmhpaaGreatDoorKH
namespace Go.Proofs.YtkkkfaifkmmhpaaGreatDoor
open Go.RowKit
set_option maxRecDepth 100000

theorem Sp.frame {ex : Nat → Prop} {w w' : World} {N n : Nat} (h : Sp w N n) (hf : Fr ex w w') (hn : ∀ x, x < N + 24 → ¬ ex x) : Sp w' N n := by
  have hb : ∀ b, b < w.heap.size → b < N + 24 → w'.heap[b]? = w.heap[b]? := fun b h1 h2 => hf.block b h1 (hn b h2)
  have e : ∀ {b : Nat} {c : Array Value} {t : TypeId}, Blk w b c t → b < N + 24 → Blk w' b c t := fun hB h2 => hB.fr hf (hn _ h2)
  exact ⟨e h.pg (by omega), e h.tb (by omega), e h.wd (by omega), (hb _ (lt_of_block h.sh) (by omega)).trans h.sh, (hb _ (lt_of_block h.pl) (by omega)).trans h.pl, e h.sp (by omega), e h.tr (by omega), e h.tm (by omega),
    fun j hj => e (h.fr j hj) (by omega), fun j hj => e (h.fm j hj) (by omega)⟩
theorem RSp.fr {ex : Nat → Prop} {w w' : World} {N rb ob n : Nat} (h : RSp w N rb ob n) (hf : Fr ex w w') (hn : ∀ x, x < N + 5 → ¬ ex x) : RSp w' N rb ob n := by
  have ht := h.two
  have e : ∀ {b : Nat} {c : Array Value} {t : TypeId}, Blk w b c t → b < N + 5 → Blk w' b c t := fun hB h2 => hB.fr hf (hn _ h2)
  exact ⟨h.two, e h.pg (by omega), e h.tb (by omega), e h.wd (by omega), e h.objs (by omega), e h.sp (by omega)⟩

/-- The blocks of the lists that are left as they are. -/
def okOf (C : Array Value) (x : Nat) : Prop := ∃ c v, 2 ≤ c ∧ c < 8 ∧ C[c]? = some v ∧ v.ownBlock = some x

theorem QSt.self {w0 w : World} {ok0 : Nat → Prop} {C0 C : Array Value} {p : Nat} {nn : Nat → Nat} {FF : Nat → Nat → Value} (h : QSt w0 ok0 C0 p w C nn FF) : QSt w (okOf C) C p w C nn FF :=
  ⟨h.kp, h.size, fun _ _ => rfl, h.row, h.one, fun c x v h1 h2 hc hx => .inl ⟨c, v, h1, h2, hc, hx⟩, h.ne, Fr.refl _ _⟩

theorem KSt.recell {ex : Nat → Prop} {w w' : World} {p : Nat} {C C' : Array Value} {nW nP nB : Nat} {oW oP oB : Nat → Prop} (h : KSt w p C nW nP nB oW oP oB) (hf : Fr ex w w') (hk : Blk w' p C' 45) (hs : C'.size = 14)
    (he : ∀ i, 8 ≤ i → C'[i]? = C[i]?) (hn : ∀ x, oW x ∨ oP x ∨ oB x → ¬ ex x) : KSt w' p C' nW nP nB oW oP oB := by
  have hb : ∀ x, oW x ∨ oP x ∨ oB x → w'.heap[x]? = w.heap[x]? := fun x hx => hf.block x (h.bd x hx).1 (hn x hx)
  obtain ⟨a1, a2, a3, a4, a5, a6, a7⟩ := h.fw
  obtain ⟨b1, b2, b3, b4, b5, b6, b7⟩ := h.fp
  obtain ⟨c1, c2, c3, c4, c5, c6, c7⟩ := h.fb
  exact ⟨hk, hs, ⟨a1, a2, a3, a4, (he 8 (by omega)).trans a5, (he 11 (by omega)).trans a6, a7.same fun x hx => hb x (.inl hx)⟩, ⟨b1, b2, b3, b4, (he 9 (by omega)).trans b5, (he 12 (by omega)).trans b6, b7.same fun x hx => hb x (.inr (.inl hx))⟩,
    ⟨c1, c2, c3, c4, (he 10 (by omega)).trans c5, (he 13 (by omega)).trans c6, c7.same fun x hx => hb x (.inr (.inr hx))⟩, fun x hx => ⟨Nat.lt_of_lt_of_le (h.bd x hx).1 hf.size, (h.bd x hx).2⟩, h.dis⟩

/-- The pair between two steps. -/
structure PSt (w0 w : World) (N R rb ob n p : Nat) (C : Array Value) (nn : Nat → Nat) (FF : Nat → Nat → Value) (nW nP nB : Nat) (oW oP oB : Nat → Prop) : Prop where
  s : Sp w N n
  r : RSp w R rb ob n
  nr : N + 24 ≤ R
  rp : R + 5 ≤ p
  q : QSt w (okOf C) C p w C nn FF
  k : KSt w p C nW nP nB oW oP oB
  c0 : C[0]? = some (.pointer (some ⟨N + 5, 0, none⟩))
  c1 : C[1]? = some (.pointer (some ⟨R + 4, 0, none⟩))
  okb : ∀ x, okOf C x → p < x
  obd : ∀ x, oW x ∨ oP x ∨ oB x → p < x
  dis : ∀ x, okOf C x → ¬ oW x ∧ ¬ oP x ∧ ¬ oB x
  b : Fr (fun x => p ≤ x) w0 w

/-- A dump that none of the kept lists owns. -/
structure DNew (w : World) (p : Nat) (oW oP oB : Nat → Prop) (n gw cw gp cp : Nat) : Prop where
  d : DumpIn w n gw cw gp cp
  own : ∀ x, x = gw ∨ x = gp → p < x ∧ ¬ oW x ∧ ¬ oP x ∧ ¬ oB x

theorem DNew.only {w w' : World} {p : Nat} {oW oP oB : Nat → Prop} {n gw cw gp cp : Nat} (h : DNew w p oW oP oB n gw cw gp cp) (ho : Only [] w w') : DNew w' p oW oP oB n gw cw gp cp := ⟨h.d.only ho, h.own⟩
theorem DNew.lt {w : World} {p : Nat} {oW oP oB : Nat → Prop} {n gw cw gp cp : Nat} (h : DNew w p oW oP oB n gw cw gp cp) (x : Nat) (hx : x = gw ∨ x = gp) : x < w.heap.size := by
  rcases hx with rfl | rfl
  · exact h.d.rw.lt rfl
  · exact h.d.rp.lt rfl
theorem DumpIn.fr {ex : Nat → Prop} {w w' : World} {n gw cw gp cp : Nat} (h : DumpIn w n gw cw gp cp) (hf : Fr ex w w') (hn : ∀ x, x = gw ∨ x = gp → ¬ ex x) : DumpIn w' n gw cw gp cp :=
  ⟨h.rw.fr hf fun b hb => hn b (by simp [Value.ownBlock] at hb; exact .inl hb.symm), h.rp.fr hf fun b hb => hn b (by simp [Value.ownBlock] at hb; exact .inr hb.symm)⟩

section
variable {w0 w : World} {N R rb ob n p : Nat} {C : Array Value} {nn : Nat → Nat} {FF : Nat → Nat → Value} {nW nP nB : Nat} {oW oP oB : Nat → Prop}

theorem PSt.cells (h : PSt w0 w N R rb ob n p C nn FF nW nP nB oW oP oB) : w.cell? ⟨p, 0, none⟩ = some (.pointer (some ⟨N + 5, 0, none⟩)) ∧ w.cell? ⟨p, 1, none⟩ = some (.pointer (some ⟨R + 4, 0, none⟩)) :=
  ⟨(h.q.kp.cell 0).trans h.c0, (h.q.kp.cell 1).trans h.c1⟩

theorem PSt.okNe (h : PSt w0 w N R rb ob n p C nn FF nW nP nB oW oP oB) {te : TypeId} {sz : Nat} {el : Nat → Value} {v : Value} {len x : Nat} (hr : Row w te sz el v len) (ht : te = 3 ∨ te = 139) (hx : okOf C x) : v.ownBlock ≠ some x := by
  obtain ⟨c, v', h1, h2, hc, hv⟩ := hx
  obtain ⟨a, k, e, r⟩ := h.q.row c h1 h2
  have : v' = .slice a (nn c) k := by rw [hc] at e; simpa using e
  subst this
  refine r.typed hr ?_ hv
  unfold tfOf
  rcases ht with rfl | rfl
  · split
    · decide
    · split <;> decide
  · split
    · decide
    · split <;> decide
theorem PSt.okD (h : PSt w0 w N R rb ob n p C nn FF nW nP nB oW oP oB) {m gw cw gp cp x : Nat} (d : DumpIn w m gw cw gp cp) (hx : okOf C x) : x ≠ gw ∧ x ≠ gp := by
  constructor
  · rintro rfl
    exact h.okNe d.rw (.inl rfl) hx rfl
  · rintro rfl
    exact h.okNe d.rp (.inr rfl) hx rfl
theorem PSt.okLt (h : PSt w0 w N R rb ob n p C nn FF nW nP nB oW oP oB) (x : Nat) (hx : okOf C x) : x < w.heap.size := by
  obtain ⟨c, v', h1, h2, hc, hv⟩ := hx
  obtain ⟨a, k, e, r⟩ := h.q.row c h1 h2
  have : v' = .slice a (nn c) k := by rw [hc] at e; simpa using e
  subst this
  exact r.lt hv

theorem PSt.only (h : PSt w0 w N R rb ob n p C nn FF nW nP nB oW oP oB) {w' : World} (ho : Only [] w w') : PSt w0 w' N R rb ob n p C nn FF nW nP nB oW oP oB :=
  ⟨h.s.only ho (by simp), h.r.only ho (by simp), h.nr, h.rp, (h.q.only ho).self, h.k.fr (Fr.of_only ho fun _ => False) (by simp) (by simp), h.c0, h.c1, h.okb, h.obd, h.dis, h.b.trans (Fr.of_only ho fun _ => False) (by simp)⟩

theorem PSt.kept (h : PSt w0 w N R rb ob n p C nn FF nW nP nB oW oP oB) {w' : World} {C' : Array Value} {nn' : Nat → Nat} {FF' : Nat → Nat → Value} (hq : QSt w (okOf C) C p w' C' nn' FF') : PSt w0 w' N R rb ob n p C' nn' FF' nW nP nB oW oP oB := by
  have hnr := h.nr
  have hrp := h.rp
  have hp := h.q.kp.lt
  have low : ∀ x, x < p → ¬ (x = p ∨ okOf C x) := by
    rintro x hx (rfl | hk)
    · omega
    · have := h.okb x hk; omega
  have ok : ∀ x, okOf C' x → okOf C x ∨ w.heap.size ≤ x := by
    rintro x ⟨c, v, h1, h2, hc, hv⟩
    exact hq.ob c x v h1 h2 hc hv
  refine ⟨h.s.frame hq.fr fun x hx => low x (by omega), h.r.fr hq.fr fun x hx => low x (by omega), hnr, hrp, hq.self, h.k.recell hq.fr hq.kp hq.size (fun i hi => hq.hi i (.inr hi)) ?_, (hq.hi 0 (by omega)).trans h.c0, (hq.hi 1 (by omega)).trans h.c1, ?_, h.obd, ?_, h.b.trans hq.fr ?_⟩
  · rintro x hx (rfl | hk)
    · have := h.obd x hx; omega
    · have := h.dis x hk
      rcases hx with hx | hx | hx
      · exact this.1 hx
      · exact this.2.1 hx
      · exact this.2.2 hx
  · intro x hx
    rcases ok x hx with h' | h'
    · exact h.okb x h'
    · omega
  · intro x hx
    rcases ok x hx with h' | h'
    · exact h.dis x h'
    · refine ⟨fun e => ?_, fun e => ?_, fun e => ?_⟩
      · have := (h.k.bd x (.inl e)).1; omega
      · have := (h.k.bd x (.inr (.inl e))).1; omega
      · have := (h.k.bd x (.inr (.inr e))).1; omega
  · rintro x - (rfl | hk)
    · exact Nat.le_refl _
    · exact Nat.le_of_lt (h.okb x hk)

theorem PSt.marked (h : PSt w0 w N R rb ob n p C nn FF nW nP nB oW oP oB) {w' : World} {m gw cw gp cp : Nat} {e : Ending} (d : DNew w p oW oP oB m gw cw gp cp) (hd : DumpMarked w p C nW nP nB oW oP oB gw gp e w') :
    ∃ C' oW' oP' oB', PSt w0 w' N R rb ob n p C' nn FF (nW + 8) (nP + 8) (nB + 8) oW' oP' oB' ∧ (∀ i, i < 8 → C'[i]? = C[i]?) ∧ (∀ x, oW' x ∨ oP' x ∨ oB' x → oW x ∨ oP x ∨ oB x ∨ x = gw ∨ x = gp ∨ w.heap.size ≤ x) := by
  obtain ⟨-, ⟨C', oW', oP', oB', hk, hc, hsub⟩, hf⟩ := hd
  have hnr := h.nr
  have hrp := h.rp
  have hp := h.q.kp.lt
  have out : ∀ x, x < p ∨ okOf C x → ¬ (x = p ∨ oW x ∨ oP x ∨ oB x ∨ x = gw ∨ x = gp) := by
    intro x hx
    have a1 : ∀ y, oW y ∨ oP y ∨ oB y → y = x → x < p ∨ okOf C x → False := by
      rintro y hy rfl (h' | h')
      · have := h.obd y hy; omega
      · have := h.dis y h'
        rcases hy with hy | hy | hy
        · exact this.1 hy
        · exact this.2.1 hy
        · exact this.2.2 hy
    rintro (rfl | h' | h' | h' | h')
    · rcases hx with hx | hx
      · omega
      · have := h.okb x hx; omega
    · exact a1 x (.inl h') rfl hx
    · exact a1 x (.inr (.inl h')) rfl hx
    · exact a1 x (.inr (.inr h')) rfl hx
    · have := (d.own x h').1
      rcases hx with hx | hx
      · omega
      · have := h.okD d.d hx
        omega
  have ok : ∀ x, okOf C' x → okOf C x := by
    rintro x ⟨c, v, h1, h2, hv, hx⟩
    exact ⟨c, v, h1, h2, (hc c h2).symm.trans hv, hx⟩
  refine ⟨C', oW', oP', oB', ⟨h.s.frame hf fun x hx => out x (by omega), h.r.fr hf fun x hx => out x (by omega), hnr, hrp, ?_, hk, (hc 0 (by omega)).trans h.c0, (hc 1 (by omega)).trans h.c1, fun x hx => h.okb x (ok x hx), ?_, ?_, h.b.trans hf ?_⟩, hc, hsub⟩
  · refine ⟨hk.kp, hk.size, fun _ _ => rfl, fun c h1 h2 => ?_, h.q.one, fun c x v h1 h2 hv hx => .inl ⟨c, v, h1, h2, hv, hx⟩, ?_, Fr.refl _ _⟩
    · obtain ⟨a, k, e1, r⟩ := h.q.row c h1 h2
      exact ⟨a, k, (hc c h2).trans e1, r.fr hf fun b hb => out b (.inr ⟨c, _, h1, h2, e1, hb⟩)⟩
    · intro c c' x v v' a1 a2 b1 b2 hne e1 e2
      exact h.q.ne c c' x v v' a1 a2 b1 b2 hne ((hc c a2).symm.trans e1) ((hc c' b2).symm.trans e2)
  · intro x hx
    rcases hsub x hx with h' | h' | h' | h' | h' | h'
    · exact h.obd x (.inl h')
    · exact h.obd x (.inr (.inl h'))
    · exact h.obd x (.inr (.inr h'))
    · exact (d.own x (.inl h')).1
    · exact (d.own x (.inr h')).1
    · omega
  · intro x hx
    have hx' := ok x hx
    have a1 : ¬ (oW' x ∨ oP' x ∨ oB' x) := by
      intro hy
      have h3 := out x (.inr hx')
      have h4 := h.okLt x hx'
      rcases hsub x hy with h' | h' | h' | h' | h' | h'
      · exact h3 (.inr (.inl h'))
      · exact h3 (.inr (.inr (.inl h')))
      · exact h3 (.inr (.inr (.inr (.inl h'))))
      · exact h3 (.inr (.inr (.inr (.inr (.inl h')))))
      · exact h3 (.inr (.inr (.inr (.inr (.inr h')))))
      · omega
    exact ⟨fun e => a1 (.inl e), fun e => a1 (.inr (.inl e)), fun e => a1 (.inr (.inr e))⟩
  · rintro x - (rfl | h' | h' | h' | h')
    · exact Nat.le_refl _
    · exact Nat.le_of_lt (h.obd x (.inl h'))
    · exact Nat.le_of_lt (h.obd x (.inr (.inl h')))
    · exact Nat.le_of_lt (h.obd x (.inr (.inr h')))
    · exact Nat.le_of_lt (d.own x h').1

theorem PSt.fresh (h : PSt w0 w N R rb ob n p C nn FF nW nP nB oW oP oB) {w' : World} {m gw cw gp cp : Nat} (d1 : NewRow w w' 3 1 (.slice (some ⟨gw, 0, none⟩) (m * 64) cw) (m * 64)) (d2 : NewRow w w' 139 3 (.slice (some ⟨gp, 0, none⟩) m cp) m) :
    DNew w' p oW oP oB m gw cw gp cp ∧ ∀ x, x = gw ∨ x = gp → w.heap.size ≤ x := by
  have hs : ∀ x, x = gw ∨ x = gp → w.heap.size ≤ x := by
    rintro x (rfl | rfl)
    · exact d1.new _ rfl
    · exact d2.new _ rfl
  have hp := h.q.kp.lt
  refine ⟨⟨⟨d1.row, d2.row⟩, fun x hx => ?_⟩, hs⟩
  have := hs x hx
  refine ⟨by omega, fun e => ?_, fun e => ?_, fun e => ?_⟩
  · have := (h.k.bd x (.inl e)).1; omega
  · have := (h.k.bd x (.inr (.inl e))).1; omega
  · have := (h.k.bd x (.inr (.inr e))).1; omega

theorem DNew.kept {w' : World} {m gw cw gp cp : Nat} (d : DNew w p oW oP oB m gw cw gp cp) (h : PSt w0 w N R rb ob n p C nn FF nW nP nB oW oP oB) (hf : Fr (fun x => x = p ∨ okOf C x) w w') : DNew w' p oW oP oB m gw cw gp cp := by
  refine ⟨d.d.fr hf ?_, d.own⟩
  rintro x hx (rfl | hk)
  · have := (d.own x hx).1; omega
  · have := h.okD d.d hk; omega

theorem DNew.marked {w' : World} {m gw cw gp cp g2w g2p : Nat} {oW' oP' oB' : Nat → Prop} (d : DNew w p oW oP oB m gw cw gp cp) (hsep : ∀ x, x = gw ∨ x = gp → x ≠ g2w ∧ x ≠ g2p) (hf : Fr (fun x => x = p ∨ oW x ∨ oP x ∨ oB x ∨ x = g2w ∨ x = g2p) w w')
    (hsub : ∀ x, oW' x ∨ oP' x ∨ oB' x → oW x ∨ oP x ∨ oB x ∨ x = g2w ∨ x = g2p ∨ w.heap.size ≤ x) : DNew w' p oW' oP' oB' m gw cw gp cp := by
  have out : ∀ x, x = gw ∨ x = gp → ¬ (oW' x ∨ oP' x ∨ oB' x) := by
    intro x hx hy
    have h1 := d.own x hx
    have h2 := hsep x hx
    have h3 := d.lt x hx
    rcases hsub x hy with h' | h' | h' | h' | h' | h'
    · exact h1.2.1 h'
    · exact h1.2.2.1 h'
    · exact h1.2.2.2 h'
    · exact h2.1 h'
    · exact h2.2 h'
    · omega
  refine ⟨d.d.fr hf ?_, fun x hx => ⟨(d.own x hx).1, fun e => out x hx (.inl e), fun e => out x hx (.inr (.inl e)), fun e => out x hx (.inr (.inr e))⟩⟩
  intro x hx hy
  have h1 := d.own x hx
  have h2 := hsep x hx
  rcases hy with rfl | h' | h' | h' | h' | h'
  · omega
  · exact h1.2.1 h'
  · exact h1.2.2.1 h'
  · exact h1.2.2.2 h'
  · exact h2.1 h'
  · exact h2.2 h'

/-- What a call of Dump leaves. -/
def DumpedNew (w0 w : World) (N R rb ob n p : Nat) (C : Array Value) (nn : Nat → Nat) (FF : Nat → Nat → Value) (nW nP nB : Nat) (oW oP oB : Nat → Prop) (e : Ending) (w' : World) : Prop :=
  ∃ gw cw gp cp, e = .returned (dumpV n gw cw gp cp) ∧ DNew w' p oW oP oB n gw cw gp cp ∧ (∀ x, x = gw ∨ x = gp → w.heap.size ≤ x) ∧ PSt w0 w' N R rb ob n p C nn FF nW nP nB oW oP oB ∧ Only [] w w'

theorem callS (h : PSt w0 w N R rb ob n p C nn FF nW nP nB oW oP oB) (h1 : 1 ≤ n) (h2 : n ≤ 24) : Calls Tryz.prog 31 #[.pointer (some ⟨N + 5, 0, none⟩)] w (DumpedNew w0 w N R rb ob n p C nn FF nW nP nB oW oP oB) :=
  (dumpS N n w h1 h2 h.s).mono fun _ _ ⟨gw, cw, gp, cp, he, d1, d2, ho⟩ => ⟨gw, cw, gp, cp, he, (h.fresh d1 d2).1, (h.fresh d1 d2).2, h.only ho, ho⟩
theorem callR (h : PSt w0 w N R rb ob n p C nn FF nW nP nB oW oP oB) (h1 : 1 ≤ n) (h2 : n ≤ 24) : Calls Tryz.prog 32 #[.pointer (some ⟨R + 4, 0, none⟩)] w (DumpedNew w0 w N R rb ob n p C nn FF nW nP nB oW oP oB) :=
  (dumpR R rb ob n w h1 h2 h.r).mono fun _ _ ⟨gw, cw, gp, cp, he, d1, d2, ho⟩ => ⟨gw, cw, gp, cp, he, (h.fresh d1 d2).1, (h.fresh d1 d2).2, h.only ho, ho⟩

theorem callQ (h : PSt w0 w N R rb ob n p C nn FF nW nP nB oW oP oB) (h2 : n ≤ 24) {gw cw gp cp hw dw hp dp : Nat} (a : DNew w p oW oP oB n gw cw gp cp) (b : DNew w p oW oP oB n hw dw hp dp) (hm : nn 2 + nn 6 ≤ 20) (hbn : ∀ c, nn c ≤ 800) :
    Calls Tryz.prog 30 #[.pointer (some ⟨p, 2, none⟩), dumpV n gw cw gp cp, dumpV n hw dw hp dp, .bool true] w fun e w' => e = .returned (.bool true) ∧
      (∃ C', PSt w0 w' N R rb ob n p C' (qn7 nn) (qf7 FF nn (.slice (some ⟨gw, 0, none⟩) (n * 64) cw) (.slice (some ⟨hw, 0, none⟩) (n * 64) dw) (.slice (some ⟨gp, 0, none⟩) n cp) (.slice (some ⟨hp, 0, none⟩) n dp)) nW nP nB oW oP oB) ∧
      DNew w' p oW oP oB n gw cw gp cp ∧ DNew w' p oW oP oB n hw dw hp dp :=
  (dumpQ n gw cw gp cp hw dw hp dp p C (okOf C) nn FF w h2 h.q (fun x hx => h.okLt x hx) (by omega) (fun c => by have := hbn c; omega) a.d b.d).mono fun _ _ ⟨he, C', hq⟩ => ⟨he, ⟨C', h.kept hq⟩, a.kept h hq.fr, b.kept h hq.fr⟩

theorem callM (h : PSt w0 w N R rb ob n p C nn FF nW nP nB oW oP oB) (h2 : n ≤ 24) {gw cw gp cp hw dw hp dp : Nat} (a : DNew w p oW oP oB n gw cw gp cp) (b : DNew w p oW oP oB n hw dw hp dp) (hm : nn 2 + nn 6 ≤ 30) (b1 : nW ≤ 800) (b2 : nP ≤ 800) (b3 : nB ≤ 800) :
    Calls Tryz.prog 30 #[.pointer (some ⟨p, 2, none⟩), dumpV n gw cw gp cp, dumpV n hw dw hp dp, .bool false] w (DumpMarked w p C nW nP nB oW oP oB gw gp) := by
  obtain ⟨x2, k2, e2, -⟩ := h.q.row 2 (by omega) (by omega)
  obtain ⟨x6, k6, e6, -⟩ := h.q.row 6 (by omega) (by omega)
  exact dumpM n gw cw gp cp hw dw hp dp p (nn 2) (nn 6) k2 k6 nW nP nB x2 x6 C oW oP oB w h2 h.k e2 e6 hm a.d b.d (a.own gw (.inl rfl)).2 (a.own gp (.inr rfl)).2 (by omega) (by omega) (by omega)

/-- What pair.looked leaves at kind 20. -/
def Looked (w0 : World) (N R rb ob n p : Nat) (nn : Nat → Nat) (FF : Nat → Nat → Value) (nW nP nB : Nat) (e : Ending) (w' : World) : Prop :=
  e = .returned (.bool true) ∧ ∃ C oW oP oB gw cw gp cp hw dw hp dp,
    PSt w0 w' N R rb ob n p C (qn7 nn) (qf7 FF nn (.slice (some ⟨gw, 0, none⟩) (n * 64) cw) (.slice (some ⟨hw, 0, none⟩) (n * 64) dw) (.slice (some ⟨gp, 0, none⟩) n cp) (.slice (some ⟨hp, 0, none⟩) n dp)) (nW + 8) (nP + 8) (nB + 8) oW oP oB ∧
      DNew w' p oW oP oB n gw cw gp cp ∧ DNew w' p oW oP oB n hw dw hp dp

theorem lookedEnd {gw cw gp cp hw dw hp dp g2w c2w g2p c2p : Nat} {w' : World} {e : Ending}
    (h : PSt w0 w N R rb ob n p C (qn7 nn) (qf7 FF nn (.slice (some ⟨gw, 0, none⟩) (n * 64) cw) (.slice (some ⟨hw, 0, none⟩) (n * 64) dw) (.slice (some ⟨gp, 0, none⟩) n cp) (.slice (some ⟨hp, 0, none⟩) n dp)) nW nP nB oW oP oB)
    (a : DNew w p oW oP oB n gw cw gp cp) (b : DNew w p oW oP oB n hw dw hp dp) (a2 : DNew w p oW oP oB n g2w c2w g2p c2p) (hsep : ∀ x, x = gw ∨ x = gp ∨ x = hw ∨ x = hp → x ≠ g2w ∧ x ≠ g2p)
    (hd : DumpMarked w p C nW nP nB oW oP oB g2w g2p e w') : Looked w0 N R rb ob n p nn FF nW nP nB e w' := by
  obtain ⟨C', oW', oP', oB', hP, -, hsub⟩ := h.marked a2 hd
  exact ⟨hd.1, C', oW', oP', oB', gw, cw, gp, cp, hw, dw, hp, dp, hP, a.marked (fun x hx => hsep x (by omega)) hd.2.2 hsub, b.marked (fun x hx => hsep x (by omega)) hd.2.2 hsub⟩

theorem sepOf {gw cw gp cp hw dw hp dp g2w g2p : Nat} (a : DNew w p oW oP oB n gw cw gp cp) (b : DNew w p oW oP oB n hw dw hp dp) (hs : ∀ x, x = g2w ∨ x = g2p → w.heap.size ≤ x) : ∀ x, x = gw ∨ x = gp ∨ x = hw ∨ x = hp → x ≠ g2w ∧ x ≠ g2p := by
  intro x hx
  have h1 := hs g2w (.inl rfl)
  have h2 := hs g2p (.inr rfl)
  have h3 : x < w.heap.size := by
    rcases hx with hx | hx | hx | hx
    · exact a.lt x (.inl hx)
    · exact a.lt x (.inr hx)
    · exact b.lt x (.inl hx)
    · exact b.lt x (.inr hx)
  omega
end
end Go.Proofs.YtkkkfaifkmmhpaaGreatDoor
