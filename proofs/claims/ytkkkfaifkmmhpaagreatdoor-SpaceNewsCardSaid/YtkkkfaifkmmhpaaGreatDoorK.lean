/- A range over a function whose iterator comes to no round: the statement, and the function's way out past the marks. -/
import Derived.Test.YtkkkfaifkmmhpaaGreatDoorJ
import Derived.RangeFuncLeaves
import Derived.RangeFuncRecord
namespace Go.Proofs.YtkkkfaifkmmhpaaGreatDoor
open Go.RowKit
set_option maxRecDepth 100000

theorem finish_at_inRangeFunc (b : Frame) (a : Act) (l : Nat) (k : List Item) (v : Value) : (b.at a (.inRangeFunc l :: k)).finish v = b.at a (.endRangeFunc l :: k) := by
  simp [Frame.finish, Frame.at]

theorem step_endRangeFuncP {P : Program} {b : Frame} {a : Act} {k : List Item} {cs : List Frame} {w w' : World} {l : Nat} (h : (Instr.endLoop l).run P w = .ok none w') :
    step P (lone (b.at a (.endRangeFunc l :: k)) cs w) = .next (lone (b.at a k) cs w') :=
  step_lone_go (by simp [stepG, stepG.exec, Frame.at, Sem.runT_eq, h, GStep.bare_after])

theorem step_rangeFuncP {P : Program} {b : Frame} {a : Act} {k : List Item} {cs : List Frame} {w : World} {g : Operand} {ps : Array Tmp} {assign body : Code} {l : Nat} {mark : List Deferred} {w₁ w₁' w₂ : World} {d : Deferred} {f : FuncId} {args : Array Value}
    (he : (Instr.enterLoop b.fn a.tmps ps assign body none).run P w = .ok (l, mark) w₁)
    (hres : (resolve a.eval (rangeCall g l) 0).run P w₁ = .ok d w₁') (hinv : (invoke d.target d.args).run P w₁' = .ok (.enter f args) w₂) :
    step P (lone (b.at a (.code (.rangeFunc g ps assign body) :: k)) cs w) =
      .next (lone (Frame.enter P f args .normal) (b.at { a with defers := mark ++ a.defers } (.inRangeFunc l :: k) :: cs) w₂) :=
  step_lone_go (by
    have hev := Frame.eval_at' b { a with defers := mark ++ a.defers } (.inRangeFunc l :: k)
    simp only [Frame.at] at hev
    have hres' : Sem.run P (resolve ({ tmps := a.tmps, defers := mark ++ a.defers } : Act).eval { callee := .value g, args := #[.const (.func (.yield l) #[] #[])], argTypes := #[] } 0) w₁ = .ok d w₁' := hres
    simp [stepG, stepG.exec, Frame.at, Sem.runT_eq, he, GStep.bare_after, stepG.apply, hev, Sem.run_bind, hres', hinv, Result.andThen])

/-- **THE STATEMENT, WHERE NO ROUND IS COME TO.** -/
theorem wp_rangeFunc_none {P : Program} {g : Operand} {ps : Array Tmp} {assign body : Code} {Q : Exit → Act → World → Prop} {a : Act} {w : World} {gf : Nat} {lb : Array Value}
    (hg : a.eval g = .func (.func gf) #[] lb) (eg : ∀ args w, (callFunc gf args).run P w = .ok (.enter gf args) w)
    (h : ∀ rec : Loop, rec.state = .ready → rec.pending = none → Calls P gf (#[.func (.yield (w.heap.size + 1)) #[] #[]] ++ lb) ((w.alloc (.deferred (some []))).alloc (.loop rec)) fun e w' =>
      (∃ v, e = .returned v) ∧ w'.heap[w.heap.size + 1]? = some (.loop rec) ∧
        Q .normal { a with defers := { target := .collected w.heap.size, args := #[] } :: a.defers } (w'.putObj (w.heap.size + 1) (.loop { rec with state := .exhausted }))) :
    (Code.rangeFunc g ps assign body).wp P Q a w := by
  intro b k cs
  obtain ⟨rec, hrec⟩ : ∃ rec : Loop, rec = { state := .ready, pending := none, fn := b.fn, tmps := a.tmps, params := ps, assign, body, defers := w.heap.size } := ⟨_, rfl⟩
  have he : (Instr.enterLoop b.fn a.tmps ps assign body none).run P w = .ok (w.heap.size + 1, [{ target := .collected w.heap.size, args := #[] }]) ((w.alloc (.deferred (some []))).alloc (.loop rec)) := by
    rw [hrec]; exact run_enterLoop_outer _ _ _ _ _
  have hres : (resolve a.eval (rangeCall g (w.heap.size + 1)) 0).run P ((w.alloc (.deferred (some []))).alloc (.loop rec)) = .ok { target := .fn (.func gf) lb, args := #[.func (.yield (w.heap.size + 1)) #[] #[]] } ((w.alloc (.deferred (some []))).alloc (.loop rec)) := by
    simp only [resolve, hg]
    simp [go_sem]
  have hinv : (invoke (.fn (.func gf) lb) #[.func (.yield (w.heap.size + 1)) #[] #[]]).run P ((w.alloc (.deferred (some []))).alloc (.loop rec)) = .ok (.enter gf (#[.func (.yield (w.heap.size + 1)) #[] #[]] ++ lb)) ((w.alloc (.deferred (some []))).alloc (.loop rec)) := by
    simp [invoke, go_sem, eg]
  have henter := step_rangeFuncP (P := P) (b := b) (a := a) (k := k) (cs := cs) (w := w) he hres hinv
  obtain ⟨e, w₃, fr, ⟨⟨v, rfl⟩, hl, hQ⟩, hsteps, hfn, hleave⟩ := h rec (by rw [hrec]) (by rw [hrec]) (b.at { a with defers := { target := .collected w.heap.size, args := #[] } :: a.defers } (.inRangeFunc (w.heap.size + 1) :: k) :: cs)
  refine ⟨.normal, _, _, hQ, ?_⟩
  have hend : (Instr.endLoop (w.heap.size + 1)).run P w₃ = .ok none (w₃.putObj (w.heap.size + 1) (.loop { rec with state := .exhausted })) := by
    have := run_endLoop (P := P) hl (by rw [hrec]; simp)
    rw [this, hrec]
  refine Steps.head henter (Steps.trans hsteps (Steps.head ?_ (Steps.one (step_endRangeFuncP hend))))
  rw [← finish_at_inRangeFunc b _ (w.heap.size + 1) k v]
  exact step_leave_returned hleave

/-- A function on its way out past its marks. -/
def LeavesK (P : Program) (fn : Func) (tmps : Array Value) (R : Ending → World → Prop) : List Deferred → World → Prop
  | [], w => ∃ v, (results fn tmps).run P w = .ok v w ∧ R (.returned v) w
  | d :: ds, w => ∃ r w', d.target = .collected r ∧ (Instr.takeDeferred r).run P w = .ok [] w' ∧ LeavesK P fn tmps R ds w'

def bodyPostK (P : Program) (fn : Func) (R : Ending → World → Prop) : Exit → Act → World → Prop
  | .normal, a, w | .ret, a, w => LeavesK P fn a.tmps R a.defers w
  | .outgrown, _, w => R .outgrown w
  | _, _, _ => False

theorem leavesK_steps {P : Program} {fn : Func} {tmps : Array Value} {R : Ending → World → Prop} : ∀ (ds : List Deferred) (w : World) (fr : Frame) (cs : List Frame), fr.mode = .returning → fr.defers = ds → fr.tmps = tmps → P.funcs[fr.fn]? = some fn → fr.kind = .normal →
    LeavesK P fn tmps R ds w → ∃ v w' fr', R (.returned v) w' ∧ Steps P (lone fr cs w) (lone fr' cs w') ∧ fr'.fn = fr.fn ∧ fr'.leaving P w' (.returned v)
  | [], w, fr, cs, hm, hd, ht, hf, hk, h => by
    obtain ⟨v, hr, hR⟩ := h
    exact ⟨v, w, fr, hR, .refl _ _, rfl, hm, hd, hk, fn, hf, by rw [ht]; exact hr⟩
  | d :: ds, w, fr, cs, hm, hd, ht, hf, hk, h => by
    obtain ⟨r, w', htar, htake, hrest⟩ := h
    have h1 := step_collected (cs := cs) (by rw [hm]; simp) hd htar htake
    obtain ⟨v, w'', fr', hR, hs, hfn, hl⟩ := leavesK_steps ds w' { fr with defers := [] ++ ds } cs hm rfl ht hf hk hrest
    exact ⟨v, w'', fr', hR, .head h1 hs, hfn, hl⟩

theorem calls_of_wp_K {P : Program} {f : FuncId} {fn : Func} {c : Code} {args : Array Value} {w : World} {R : Ending → World → Prop}
    (hf : P.funcs[f]? = some fn) (hb : fn.body = some c)
    (h : c.wp P (bodyPostK P fn R) { tmps := args ++ Array.replicate (fn.ntmps - args.size) undef, defers := [] } w) :
    Calls P f args w R := by
  intro cs
  let b : Frame := { (default : Frame) with fn := f, kind := .normal }
  have henter : Frame.enter P f args .normal =
      b.at { tmps := args ++ Array.replicate (fn.ntmps - args.size) undef, defers := [] } [.code c] := by
    simp [Frame.enter, Frame.at, hf, hb, b]
  obtain ⟨e, a', w', hq, harr⟩ := h b [] cs
  rw [← henter] at harr
  cases e with
  | normal =>
    obtain ⟨v, w'', fr', hR, hs, hfn, hl⟩ := leavesK_steps a'.defers w' { b.at a' [] with mode := .returning } cs rfl rfl rfl hf rfl hq
    exact ⟨.returned v, w'', fr', hR, Steps.trans (Steps.trans harr (.one step_end)) hs, hfn, hl⟩
  | ret =>
    obtain ⟨todo, hs₀⟩ := harr
    obtain ⟨v, w'', fr', hR, hs, hfn, hl⟩ := leavesK_steps a'.defers w' { b.at a' todo with mode := .returning } cs rfl rfl rfl hf rfl hq
    exact ⟨.returned v, w'', fr', hR, Steps.trans hs₀ hs, hfn, hl⟩
  | panic chain => exact hq.elim
  | exit id => exact hq.elim
  | goto l => exact hq.elim
  | outgrown => exact ⟨.outgrown, w', b, hq, harr.resolve_left (by simp [b]), rfl, trivial⟩

/-- The marks of a function's loops. -/
abbrev marks (rs : List Nat) : List Deferred := rs.map fun r => { target := .collected r, args := #[] }

theorem leavesK_of_marks {P : Program} {fn : Func} {tmps : Array Value} {R : Ending → World → Prop} : ∀ (rs : List Nat) (w : World), rs.Nodup → (∀ r, r ∈ rs → w.heap[r]? = some (.deferred (some []))) →
    (∀ w', Only rs w w' → ∃ v, (results fn tmps).run P w' = .ok v w' ∧ R (.returned v) w') → LeavesK P fn tmps R (marks rs) w
  | [], w, _, _, h => h w (Only.refl _ _)
  | r :: rs, w, hn, hm, h => by
    have hr := hm r (by simp)
    have hlt : r < w.heap.size := lt_of_block hr
    refine ⟨r, _, rfl, run_takeDeferred hr, leavesK_of_marks rs _ (List.nodup_cons.1 hn).2 ?_ ?_⟩
    · intro r' hr'
      have hne : r' ≠ r := fun e => (List.nodup_cons.1 hn).1 (e ▸ hr')
      rw [World.putObj_heap_other hne]
      exact hm r' (by simp [hr'])
    · intro w' ho
      refine h w' ?_
      have h1 : Only (r :: rs) w (w.putObj r (.deferred none)) :=
        ⟨rfl, rfl, rfl, by simp, fun k _ hk => World.putObj_heap_other (fun e => hk (by simp [e]))⟩
      exact h1.trans (ho.mono (by intro x hx; simp [hx]))

end Go.Proofs.YtkkkfaifkmmhpaaGreatDoor
