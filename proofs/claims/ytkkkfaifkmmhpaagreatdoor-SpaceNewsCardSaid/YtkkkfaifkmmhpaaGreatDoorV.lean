/- keep: the three appends of a marking, as steps of the walk. -/
import Derived.Test.YtkkkfaifkmmhpaaGreatDoorU
namespace Go.Proofs.YtkkkfaifkmmhpaaGreatDoor
open Go.RowKit
set_option maxRecDepth 100000

/-- What a kind of list is: its numbers. -/
structure Kind3 where
  te : TypeId
  tf : TypeId
  tl : TypeId
  sz : Nat
  bytes : Nat
  a : Nat
  b : Nat
  el : Int → Nat → Value

structure Kind3.Ok (q : Kind3) : Prop where
  one : ∀ m t, (q.el m t).oneCell' = true
  per : ∀ m k j, j < q.sz → q.el m (k * q.sz + j) = q.el m j
  ne : q.te ≠ q.tf
  ne3 : q.tf ≠ 3
  ne45 : q.te ≠ 45
  nf45 : q.tf ≠ 45
  ab : q.a ≠ q.b
  a14 : q.a < 14
  b14 : q.b < 14
  ty : ∃ i, Tryz.prog.underlying q.tl = some (.slice q.tf) ∧ Tryz.prog.info? q.tf = some i ∧ i.zero = some (.slice none 0 0) ∧ i.size = 1 ∧ i.bytes = 24
  tv : ∃ i z, Tryz.prog.underlying q.tf = some (.slice q.te) ∧ Tryz.prog.info? q.te = some i ∧ i.zero = some z ∧ i.size = q.sz ∧ i.bytes = q.bytes ∧ z.cells.size = q.sz ∧ 0 < q.sz ∧ q.bytes ≤ 100

/-- The keep's cells with the lists of lists and of signs. -/
abbrev kcells (q : Kind3) (C : Array Value) (fv sv : Value) : Array Value := (C.setIfInBounds q.a fv).setIfInBounds q.b sv

theorem kcells_a (q : Kind3) (hq : q.Ok) (C : Array Value) (fv sv fv' : Value) : (kcells q C fv sv).setIfInBounds q.a fv' = kcells q C fv' sv := by
  unfold kcells
  rw [Array.setIfInBounds_comm _ _ (Ne.symm hq.ab), Array.setIfInBounds_setIfInBounds]
theorem kcells_b (q : Kind3) (C : Array Value) (fv sv sv' : Value) : (kcells q C fv sv).setIfInBounds q.b sv' = kcells q C fv sv' := by
  unfold kcells
  rw [Array.setIfInBounds_setIfInBounds]

/-- The state between two pushes. -/
structure St2 (q : Kind3) (w0 : World) (own0 : Nat → Prop) (p : Nat) (C : Array Value) (lv : Value) (len : Nat) (m : Int) (u : World) (n : Nat) (fv sv : Value) : Prop where
  inv : ∃ F L M, Inv q.te q.tf q.sz q.el w0 own0 p lv m u F L M n n fv sv ∧ ∀ i, (F i).oneCell' = true
  kp : Blk u p (kcells q C fv sv) 45
  lv : Far q.te q.sz q.el w0 lv m sv u lv len

/-- The state between the list's push and its sign's. -/
structure StH (q : Kind3) (w0 : World) (own0 : Nat → Prop) (p : Nat) (C : Array Value) (lv : Value) (len : Nat) (m : Int) (u : World) (n : Nat) (fv sv : Value) : Prop where
  inv : ∃ F L M, Inv q.te q.tf q.sz q.el w0 own0 p lv m u F L M (n + 1) n fv sv ∧ (∀ i, (F i).oneCell' = true) ∧ Far q.te q.sz q.el w0 lv m sv u (F n) (L n) ∧ M n = m
  kp : Blk u p (kcells q C fv sv) 45
  lv : Far q.te q.sz q.el w0 lv m sv u lv len

variable {q : Kind3} {w0 : World} {own0 : Nat → Prop} {p : Nat} {C : Array Value} {lv : Value} {len : Nat} {m : Int} {u : World} {n : Nat} {fv sv : Value}

theorem St2.quiet {u' : World} (h : St2 q w0 own0 p C lv len m u n fv sv) (ho : Only [] u u') : St2 q w0 own0 p C lv len m u' n fv sv := by
  obtain ⟨F, L, M, hi, h1⟩ := h.inv
  exact ⟨⟨F, L, M, hi.quiet ho, h1⟩, h.kp.only ho (by simp), h.lv.quiet ho⟩

/-- The list's push. -/
theorem wpList_full (hq : q.Ok) (hC : C.size = 14) (h : St2 q w0 own0 p C lv len m u n fv sv) (hn : n ≤ 100000) {v : Value} {k : Nat} (hv : Far q.te q.sz q.el w0 lv m sv u v k) (h1v : v.oneCell' = true)
    {ops : Array Oper} {rest : List Oper} {o : Oper} {a : Act} {Q : Exit → Act → World → Prop} (hgd : o.guard = none) (s x : Operand) (tl t : TypeId) (htl : tl = q.tl) (ht : t = q.tf)
    (ho : o.op = .call { callee := .builtin .append, args := #[s, x], argTypes := #[tl, tl] }) (hs : a.eval s = fv) {bx : Nat} (hx : a.eval x = .slice (some ⟨bx, 0, none⟩) 1 1) (hbx : bx = u.heap.size)
    (K : ∀ g cap w', StH q w0 own0 p C lv len m (w'.setCell ⟨p, q.a, none⟩ (.slice (some ⟨g, 0, none⟩) (n + 1) cap)) n (.slice (some ⟨g, 0, none⟩) (n + 1) cap) sv → (w'.cell? ⟨p, q.a, none⟩ = some fv ∧ w'.frozen? ⟨p, q.a, none⟩ = false ∧ w'.cell? ⟨p, q.b, none⟩ = some sv) →
      wpList Tryz.prog ops Q rest (a.put o.dst (.slice (some ⟨g, 0, none⟩) (n + 1) cap)) w') :
    wpList Tryz.prog ops Q (o :: rest) a (u.alloc (.cells #[v] t)) := by
  subst htl
  subst ht
  obtain ⟨F, L, M, hi, h1⟩ := h.inv
  obtain ⟨i, t1, t2, t3, t4, t5⟩ := hq.ty
  subst hbx
  have oa : Only [] u (u.alloc (.cells #[v] q.tf)) := (Only.refl _ _).alloc _
  have hia := hi.quiet oa
  have hva := hv.quiet oa
  have hla := h.lv.quiet oa
  have hka := h.kp.only oa (by simp)
  have hX : Blk (u.alloc (.cells #[v] q.tf)) u.heap.size #[v] q.tf := Blk.new _ _ rfl
  let F' : Nat → Value := fun j => if j = n then v else F j
  have hF' : ∀ j, j < n → F' j = F j := fun j hj => by simp [F']; omega
  have hF1 : ∀ j, (F' j).oneCell' = true := fun j => by simp only [F']; split <;> simp_all
  refine wpList_append_row _ hgd s x q.tl ho q.tf i (.slice none 0 0) 1 24 t1 t2 t3 t4 t5 rfl (by decide) F' hF1 fv n hs (hia.f.congr fun t ht => hF' t (by omega)) ⟨u.heap.size, 0, none⟩ 1 1 hx (by decide) ?_ (by simp [maxLen]; omega) (by omega) ?_
  · intro j hj
    obtain rfl : j = 0 := by omega
    rw [add0, hX.cell]
    simp [F']
  · intro g cap w' ha
    have hkw : Blk w' p (kcells q C fv sv) 45 := hka.onlyV ha.only (hia.f.typedBlk hka (Ne.symm hq.nf45))
    have hin := hia.full (F' := F') (L' := fun j => if j = n then k else L j) (M' := fun j => if j = n then m else M j) ha hq.ne hq.ne3 hF' (fun j hj => by simp; omega) (fun j hj => by simp; omega)
    have hvn := hva.full hia.f hq.ne ha
    have hln := hla.full hia.f hq.ne ha
    refine K g cap w' ⟨⟨_, _, _, hin.set hkw hq.ne45 hq.nf45 _ _, hF1, ?_, by simp⟩, ?_, hln.set hkw hq.ne45 _ _⟩ ⟨?_, hkw.free _, ?_⟩
    · have := hvn.set hkw hq.ne45 q.a (.slice (some ⟨g, 0, none⟩) (n + 1) cap)
      simpa [F'] using this
    · have := hkw.setCell_same q.a (.slice (some ⟨g, 0, none⟩) (n + 1) cap)
      rw [kcells_a q hq] at this
      exact this
    · rw [hkw.cell]
      rw [Array.getElem?_setIfInBounds_ne (Ne.symm hq.ab)]
      simp [hC, hq.a14]
    · rw [hkw.cell]
      have := hq.b14
      simp [kcells, hC, *]

/-- The sign's push. -/
theorem wpList_sign (hq : q.Ok) (hC : C.size = 14) (h : StH q w0 own0 p C lv len m u n fv sv) (hn : n ≤ 100000)
    {ops : Array Oper} {rest : List Oper} {o : Oper} {a : Act} {Q : Exit → Act → World → Prop} (hgd : o.guard = none) (s x : Operand)
    (ho : o.op = .call { callee := .builtin .append, args := #[s, x], argTypes := #[27, 27] }) (hs : a.eval s = sv) {bx : Nat} (hx : a.eval x = .slice (some ⟨bx, 0, none⟩) 1 1) (hbx : bx = u.heap.size)
    (K : ∀ g cap w', St2 q w0 own0 p C lv len m (w'.setCell ⟨p, q.b, none⟩ (.slice (some ⟨g, 0, none⟩) (n + 1) cap)) (n + 1) fv (.slice (some ⟨g, 0, none⟩) (n + 1) cap) → (w'.cell? ⟨p, q.b, none⟩ = some sv ∧ w'.frozen? ⟨p, q.b, none⟩ = false) →
      wpList Tryz.prog ops Q rest (a.put o.dst (.slice (some ⟨g, 0, none⟩) (n + 1) cap)) w') :
    wpList Tryz.prog ops Q (o :: rest) a (u.alloc (.cells #[.int .i64 m] 3)) := by
  obtain ⟨F, L, M, hi, h1, hv, hM⟩ := h.inv
  obtain ⟨i, t2, t3, t4, t5⟩ := info_parts Tryz.info3
  subst hbx
  have oa : Only [] u (u.alloc (.cells #[.int .i64 m] 3)) := (Only.refl _ _).alloc _
  have hia := hi.quiet oa
  have hva := hv.quiet oa
  have hla := h.lv.quiet oa
  have hka := h.kp.only oa (by simp)
  have hX : Blk (u.alloc (.cells #[.int .i64 m] 3)) u.heap.size #[.int .i64 m] 3 := Blk.new _ _ rfl
  refine wpList_append_row _ hgd s x 27 ho 3 i (.int .i64 0) 1 8 Tryz.underlying27 t2 t3 t4 t5 rfl (by decide) (fun j => .int .i64 (M j)) (fun _ => rfl) sv n hs hia.s ⟨u.heap.size, 0, none⟩ 1 1 hx (by decide) ?_ (by simp [maxLen]; omega) (by omega) ?_
  · intro j hj
    obtain rfl : j = 0 := by omega
    rw [add0, hX.cell]
    simp [hM]
  · intro g cap w' ha
    have hkw : Blk w' p (kcells q C fv sv) 45 := hka.onlyV ha.only (hia.s.typedBlk hka (by decide))
    have hin := hia.sign hva hM ha hq.ne3
    have hln := hla.sign ha
    refine K g cap w' ⟨⟨_, _, _, hin.set hkw hq.ne45 hq.nf45 _ _, h1⟩, ?_, hln.set hkw hq.ne45 _ _⟩ ⟨?_, hkw.free _⟩
    · have := hkw.setCell_same q.b (.slice (some ⟨g, 0, none⟩) (n + 1) cap)
      rw [kcells_b q] at this
      exact this
    · rw [hkw.cell]
      have := hq.b14
      simp [kcells, hC, *]

/-- The list is grown by one. -/
theorem wpList_far (hq : q.Ok) (h : St2 q w0 own0 p C lv len m u n fv sv) {v : Value} {k : Nat} (hv : Far q.te q.sz q.el w0 lv m sv u v k) (hk : k ≤ 100000) {cs : Array Value} (hcs : cs.size = q.sz ∧ ∀ j, j < q.sz → cs[j]? = some (q.el m j))
    {ops : Array Oper} {rest : List Oper} {o : Oper} {a : Act} {Q : Exit → Act → World → Prop} (hgd : o.guard = none) (s x : Operand) (tf t : TypeId) (htf : tf = q.tf) (ht : t = q.te)
    (ho : o.op = .call { callee := .builtin .append, args := #[s, x], argTypes := #[tf, tf] }) (hs : a.eval s = v) {bx : Nat} (hx : a.eval x = .slice (some ⟨bx, 0, none⟩) 1 1) (hbx : bx = u.heap.size)
    (K : ∀ g cap w', St2 q w0 own0 p C lv len m w' n fv sv → Far q.te q.sz q.el w0 lv m sv w' (.slice (some ⟨g, 0, none⟩) (k + 1) cap) (k + 1) →
      wpList Tryz.prog ops Q rest (a.put o.dst (.slice (some ⟨g, 0, none⟩) (k + 1) cap)) w') :
    wpList Tryz.prog ops Q (o :: rest) a (u.alloc (.cells cs t)) := by
  subst htf
  subst ht
  obtain ⟨F, L, M, hi, h1⟩ := h.inv
  obtain ⟨i, z, t1, t2, t3, t4, t5, t6, t7, t8⟩ := hq.tv
  subst hbx
  have oa : Only [] u (u.alloc (.cells cs q.te)) := (Only.refl _ _).alloc _
  have hia := hi.quiet oa
  have hva := hv.quiet oa
  have hla := h.lv.quiet oa
  have hka := h.kp.only oa (by simp)
  have hX : Blk (u.alloc (.cells cs q.te)) u.heap.size cs q.te := Blk.new _ _ rfl
  refine wpList_append_row _ hgd s x q.tf ho q.te i z q.sz q.bytes t1 t2 t3 t4 t5 t6 t7 (q.el m) (hq.one m) v k hs hva.row ⟨u.heap.size, 0, none⟩ 1 1 hx (by decide) ?_ (by simp [maxLen]; omega) ?_ ?_
  · intro j hj
    rw [Nat.one_mul] at hj
    rw [add0, hX.cell, hcs.2 j hj, hq.per m k j hj]
  · have : (k + 1) * q.bytes ≤ (k + 1) * 100 := Nat.mul_le_mul_left _ t8
    omega
  · intro g cap w' ha
    have hkw : Blk w' p (kcells q C fv sv) 45 := hka.onlyV ha.only (hva.row.typedBlk hka (Ne.symm hq.ne45))
    exact K g cap w' ⟨⟨_, _, _, hia.far hva ha hq.ne, h1⟩, hkw, hla.other ha⟩ (hva.far hia.s hia.size ha)
end Go.Proofs.YtkkkfaifkmmhpaaGreatDoor
