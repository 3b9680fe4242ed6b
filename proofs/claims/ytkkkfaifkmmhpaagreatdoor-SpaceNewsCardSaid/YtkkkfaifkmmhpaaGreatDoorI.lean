/- space.Alloc of a pair, in a new space of one page. -/
import Derived.Test.YtkkkfaifkmmhpaaGreatDoorH
namespace Go.Proofs.YtkkkfaifkmmhpaaGreatDoor
open Go.RowKit
set_option maxRecDepth 100000

def setObjW (w : World) (r : Nat) (o : Obj) : World := { w with heap := w.heap.setIfInBounds r o }
theorem Only.setObj {S : List Nat} {w w' : World} (h : Only S w w') {r : Nat} (hr : r ∈ S) (o : Obj) : Only S w (setObjW w' r o) :=
  ⟨h.os, h.tape, h.output, by simpa [setObjW] using h.size, fun k hk hS => by
    have hne : r ≠ k := fun e => hS (by rw [← e]; exact hr)
    have hk' := Nat.lt_of_lt_of_le hk h.size
    unfold setObjW
    simp only [Array.getElem?_setIfInBounds_ne hne]
    exact h.block k hk hS⟩
theorem setObjW_same {w : World} {r : Nat} {x : Obj} (h : w.heap[r]? = some x) (o : Obj) : (setObjW w r o).heap[r]? = some o := by
  have : r < w.heap.size := lt_of_block h
  simp [setObjW, this]

structure St (w u : World) (N : Nat) (SC W : Array Value) (r1 rt : Int) (es ep : Array MapEntry) (cs cp : Nat) : Prop where
  k : Tk u N SC W r1
  ms : u.heap[N + 3]? = some (.map es cs)
  mp : u.heap[N + 4]? = some (.map ep cp)
  mt : Blk u (N + 7) (mapC (N + 6)) 128
  rt : Blk u (N + 6) #[.int .u64 rt] 132
  n : N + 11 < w.heap.size
  b : Blk u w.heap.size #[.int .i64 0, .int .i64 0] 47
  o : Only [N, N + 1, N + 2, N + 3, N + 4, N + 5, N + 6, N + 10] w u

theorem Only.at {S : List Nat} {w w' : World} (h : Only S w w') {b : Nat} {x : Obj} (hx : w.heap[b]? = some x) (hb : b ∉ S) : w'.heap[b]? = some x := by
  rw [h.block b (lt_of_block hx) hb]; exact hx

theorem St.only {w u u' : World} {N : Nat} {SC W : Array Value} {r1 rt : Int} {es ep : Array MapEntry} {cs cp : Nat} (h : St w u N SC W r1 rt es ep cs cp) (ho : Only [] u u') : St w u' N SC W r1 rt es ep cs cp :=
  ⟨h.k.only ho (by simp) (by simp) (by simp) (by simp) (by simp), ho.at h.ms (by simp), ho.at h.mp (by simp), h.mt.only ho (by simp), h.rt.only ho (by simp), h.n, h.b.only ho (by simp), h.o.trans (ho.mono (by simp))⟩
theorem St.below {w u u' : World} {N : Nat} {SC W : Array Value} {r1 rt : Int} {es ep : Array MapEntry} {cs cp : Nat} (h : St w u N SC W r1 rt es ep cs cp) (ho : Below u.heap.size u u') : St w u' N SC W r1 rt es ep cs cp := h.only (Only.of_below ho)
theorem St.alloc {w u : World} {N : Nat} {SC W : Array Value} {r1 rt : Int} {es ep : Array MapEntry} {cs cp : Nat} (h : St w u N SC W r1 rt es ep cs cp) (o : Obj) : St w (u.alloc o) N SC W r1 rt es ep cs cp := h.only ((Only.refl _ _).alloc _)
theorem St.drew {w u : World} {N : Nat} {SC W : Array Value} {r1 rt : Int} {es ep : Array MapEntry} {cs cp : Nat} (h : St w u N SC W r1 rt es ep cs cp) : St w u.drew N SC W r1 rt es ep cs cp := h.only ((Only.refl _ _).drew)
theorem St.words {w u : World} {N : Nat} {SC W : Array Value} {r1 rt : Int} {es ep : Array MapEntry} {cs cp : Nat} (h : St w u N SC W r1 rt es ep cs cp) (W' : Array Value) : St w (u.setRow (N + 2) W') N SC W' r1 rt es ep cs cp := by
  have ho : Only [N + 2] u (u.setRow (N + 2) W') := (Only.refl _ _).setRow (by simp) _
  have := h.n
  have z := h.k.pos
  exact ⟨⟨z, h.k.t.only ho (by simp), h.k.s.only ho (by simp), h.k.wd.setRow, h.k.m.only ho (by simp), h.k.r.only ho (by simp)⟩, ho.at h.ms (by simp), ho.at h.mp (by simp), h.mt.only ho (by simp), h.rt.only ho (by simp), h.n, h.b.only ho (by simp; omega), h.o.trans (ho.mono (by simp))⟩
theorem St.word {w u : World} {N : Nat} {SC W : Array Value} {r1 rt : Int} {es ep : Array MapEntry} {cs cp : Nat} (h : St w u N SC W r1 rt es ep cs cp) (i : Nat) (v : Value) : St w (u.setCell ⟨N + 2, i, none⟩ v) N SC (W.setIfInBounds i v) r1 rt es ep cs cp := by
  have ho : Only [N + 2] u (u.setCell ⟨N + 2, i, none⟩ v) := (Only.refl _ _).setCell (by simp) _
  have := h.n
  have z := h.k.pos
  exact ⟨⟨z, h.k.t.only ho (by simp), h.k.s.only ho (by simp), h.k.wd.setCell_same _ _, h.k.m.only ho (by simp), h.k.r.only ho (by simp)⟩, ho.at h.ms (by simp), ho.at h.mp (by simp), h.mt.only ho (by simp), h.rt.only ho (by simp), h.n, h.b.only ho (by simp; omega), h.o.trans (ho.mono (by simp))⟩
theorem St.field {w u : World} {N : Nat} {SC W : Array Value} {r1 rt : Int} {es ep : Array MapEntry} {cs cp : Nat} (h : St w u N SC W r1 rt es ep cs cp) (i : Nat) (v : Value) : St w (u.setCell ⟨N + 5, i, none⟩ v) N (SC.setIfInBounds i v) W r1 rt es ep cs cp := by
  have ho : Only [N + 5] u (u.setCell ⟨N + 5, i, none⟩ v) := (Only.refl _ _).setCell (by simp) _
  have := h.n
  have z := h.k.pos
  exact ⟨⟨z, h.k.t.only ho (by simp), h.k.s.setCell_same _ _, h.k.wd.only ho (by simp), h.k.m.only ho (by simp), h.k.r.only ho (by simp)⟩, ho.at h.ms (by simp), ho.at h.mp (by simp), h.mt.only ho (by simp), h.rt.only ho (by simp), h.n, h.b.only ho (by simp; omega), h.o.trans (ho.mono (by simp))⟩
theorem St.places {w u : World} {N : Nat} {SC W : Array Value} {r1 rt : Int} {es ep ep' : Array MapEntry} {cs cp cp' : Nat} (h : St w u N SC W r1 rt es ep cs cp) : St w (setObjW u (N + 4) (.map ep' cp')) N SC W r1 rt es ep' cs cp' := by
  have ho : Only [N + 4] u (setObjW u (N + 4) (.map ep' cp')) := (Only.refl _ _).setObj (by simp) _
  have := h.n
  have z := h.k.pos
  exact ⟨⟨z, h.k.t.only ho (by simp), h.k.s.only ho (by simp), h.k.wd.only ho (by simp), h.k.m.only ho (by simp), h.k.r.only ho (by simp)⟩, ho.at h.ms (by simp), setObjW_same h.mp _, h.mt.only ho (by simp), h.rt.only ho (by simp), h.n, h.b.only ho (by simp; omega), h.o.trans (ho.mono (by simp))⟩
theorem St.shapes {w u : World} {N : Nat} {SC W : Array Value} {r1 rt : Int} {es ep es' : Array MapEntry} {cs cp cs' : Nat} (h : St w u N SC W r1 rt es ep cs cp) : St w (setObjW u (N + 3) (.map es' cs')) N SC W r1 rt es' ep cs' cp := by
  have ho : Only [N + 3] u (setObjW u (N + 3) (.map es' cs')) := (Only.refl _ _).setObj (by simp) _
  have := h.n
  have z := h.k.pos
  exact ⟨⟨z, h.k.t.only ho (by simp), h.k.s.only ho (by simp), h.k.wd.only ho (by simp), h.k.m.only ho (by simp), h.k.r.only ho (by simp)⟩, setObjW_same h.ms _, ho.at h.mp (by simp), h.mt.only ho (by simp), h.rt.only ho (by simp), h.n, h.b.only ho (by simp; omega), h.o.trans (ho.mono (by simp))⟩
theorem St.taken {w u u' : World} {N : Nat} {SC W : Array Value} {r1 rt rt' : Int} {es ep : Array MapEntry} {cs cp : Nat} (h : St w u N SC W r1 rt es ep cs cp) (hr : Blk u' (N + 6) #[.int .u64 rt'] 132) (ho : Only [N + 6] u u') : St w u' N SC W r1 rt' es ep cs cp := by
  have := h.n
  have z := h.k.pos
  exact ⟨⟨z, h.k.t.only ho (by simp), h.k.s.only ho (by simp), h.k.wd.only ho (by simp), h.k.m.only ho (by simp), h.k.r.only ho (by simp)⟩, ho.at h.ms (by simp), ho.at h.mp (by simp), h.mt.only ho (by simp), hr, h.n, h.b.only ho (by simp; omega), h.o.trans (ho.mono (by simp))⟩
theorem St.other {w u : World} {N : Nat} {SC W : Array Value} {r1 rt : Int} {es ep : Array MapEntry} {cs cp : Nat} (h : St w u N SC W r1 rt es ep cs cp) {b i : Nat} (hb : w.heap.size < b) (v : Value) : St w (u.setCell ⟨b, i, none⟩ v) N SC W r1 rt es ep cs cp := by
  have ho : Only [b] u (u.setCell ⟨b, i, none⟩ v) := (Only.refl _ _).setCell (by simp) _
  have := h.n
  have z := h.k.pos
  exact ⟨⟨z, h.k.t.only ho (by simp; omega), h.k.s.only ho (by simp; omega), h.k.wd.only ho (by simp; omega), h.k.m.only ho (by simp; omega), h.k.r.only ho (by simp; omega)⟩, ho.at h.ms (by simp; omega), ho.at h.mp (by simp; omega), h.mt.only ho (by simp; omega), h.rt.only ho (by simp; omega), h.n, h.b.only ho (by simp; omega), h.o.setNew (by simp; omega) _⟩

theorem wiped_get (cur : Array Value) (o n i : Nat) (h : o + n ≤ cur.size) : (wiped cur o n)[i]? = if o ≤ i ∧ i < o + n then some (.int .i64 0) else cur[i]? := by
  simp only [wiped, List.getElem?_toArray, List.getElem?_append, List.length_append, List.length_take, List.length_replicate, Array.length_toList]
  by_cases h1 : i < o
  · have a1 : ¬ (o ≤ i ∧ i < o + n) := by omega
    have a2 : i < min o cur.size + n := by omega
    have a3 : i < min o cur.size := by omega
    rw [if_neg a1, if_pos a2, if_pos a3]
    simp [h1]
  · by_cases h2 : i < o + n
    · have a1 : (o ≤ i ∧ i < o + n) := by omega
      have a2 : i < min o cur.size + n := by omega
      have a3 : ¬ i < min o cur.size := by omega
      have a4 : i - min o cur.size < n := by omega
      rw [if_pos a1, if_pos a2, if_neg a3]
      simp [a4]
    · have a1 : ¬ (o ≤ i ∧ i < o + n) := by omega
      have a2 : ¬ i < min o cur.size + n := by omega
      rw [if_neg a1, if_neg a2]
      simp only [List.getElem?_drop, Array.getElem?_toList]
      congr 1
      omega

theorem St.res {w u : World} {N : Nat} {SC W : Array Value} {r1 rt : Int} {es ep : Array MapEntry} {cs cp : Nat} (h : St w u N SC W r1 rt es ep cs cp) (i : Nat) (hi : i = 0 ∨ i = 1) : St w (u.setCell ⟨w.heap.size, i, none⟩ (.int .i64 0)) N SC W r1 rt es ep cs cp := by
  have ho : Only [w.heap.size] u (u.setCell ⟨w.heap.size, i, none⟩ (.int .i64 0)) := (Only.refl _ _).setCell (by simp) _
  have := h.n
  have z := h.k.pos
  refine ⟨⟨z, h.k.t.only ho (by simp; omega), h.k.s.only ho (by simp; omega), h.k.wd.only ho (by simp; omega), h.k.m.only ho (by simp; omega), h.k.r.only ho (by simp; omega)⟩, ho.at h.ms (by simp; omega), ho.at h.mp (by simp; omega), h.mt.only ho (by simp; omega), h.rt.only ho (by simp; omega), h.n, ?_, h.o.setNew (by simp) _⟩
  have hb := h.b.setCell_same i (.int .i64 0)
  obtain rfl | rfl := hi
  · simpa using hb
  · simpa using hb

theorem SCok.serial {N : Nat} {SC : Array Value} {se ro : Int} (h : SCok N SC se ro) (x : Int) : SCok N (SC.setIfInBounds 13 (.int .i64 x)) x ro :=
  ⟨by simp [h.z], by simp [h.a0], by simp [h.a1], by simp [h.a2], by simp [h.a4], by simp [h.a11], by simp [h.a12], by simp [h.z], by simp [h.a14]⟩
theorem SCok.room {N : Nat} {SC : Array Value} {se ro : Int} (h : SCok N SC se ro) (x : Int) : SCok N (SC.setIfInBounds 14 (.int .i64 x)) se x :=
  ⟨by simp [h.z], by simp [h.a0], by simp [h.a1], by simp [h.a2], by simp [h.a4], by simp [h.a11], by simp [h.a12], by simp [h.a13], by simp [h.z]⟩

def AllocPost (w : World) (N at_ : Nat) (SC W : Array Value) (r1 rt : Int) (es ep : Array MapEntry) (cs cp : Nat) (e : Ending) (w' : World) : Prop :=
  ∃ h : Int, e = .returned (.tuple #[.int .i64 (at_ : Int), .agg #[.int .i64 0, .int .i64 0]]) ∧ St w w' N SC ((wiped W at_ 4).setIfInBounds at_ (.int .i64 h)) r1 rt es ep cs cp

set_option maxHeartbeats 1000000 in
theorem alloc0 (N : Nat) (SC W W1 : Array Value) (r1 r1' rt se ro : Int) (es ep es' ep' : Array MapEntry) (cs cp cs' cp' : Nat) (w : World)
    (hse : 0 ≤ se ∧ se ≤ 10) (hro : 0 ≤ ro ∧ ro ≤ 10) (hW1 : W1.size = 64)
    (hc : SCok N SC se ro) (hk : Tk w N SC W r1) (hms : w.heap[N + 3]? = some (.map es cs)) (hmp : w.heap[N + 4]? = some (.map ep cp))
    (hmt : Blk w (N + 7) (mapC (N + 6)) 128) (hrt : Blk w (N + 6) #[.int .u64 rt] 132)
    (htk : Calls Tryz.prog 38 #[.pointer (some ⟨N + 5, 0, none⟩), .int .i64 3] (w.alloc (.cells #[.int .i64 0, .int .i64 0] 47)) fun e w' =>
      e = .returned (.tuple #[.int .i64 0, .agg #[.int .i64 0, .int .i64 0]]) ∧ Tk w' N SC W1 r1' ∧ Only [N, N + 1, N + 2, N + 10] (w.alloc (.cells #[.int .i64 0, .int .i64 0] 47)) w')
    (hup : ∀ u : World, u.heap[N + 4]? = some (.map ep cp) → (Instr.mapUpdate 76 (.map (some (N + 4))) (.int .i64 (se + 1)) (.int .i64 0)).run Tryz.prog u = .ok () (setObjW u (N + 4) (.map ep' cp')))
    (hus : ∀ u : World, u.heap[N + 3]? = some (.map es cs) → (Instr.mapUpdate 75 (.map (some (N + 3))) (.int .i64 0) (.agg #[.int .i64 1, .int .i64 3, .int .i64 (se + 1), .int .i64 0])).run Tryz.prog u = .ok () (setObjW u (N + 3) (.map es' cs'))) :
    Calls Tryz.prog 11 #[.pointer (some ⟨N + 5, 0, none⟩), .int .i64 1, .int .i64 3, .int .i64 0] w
      (AllocPost w N 0 ((SC.setIfInBounds 13 (.int .i64 (se + 1))).setIfInBounds 14 (.int .i64 (ro + 4))) W1 r1' (Go.bits .or .u64 rt (pt 0 (0 + 1))) es' ep' cs' cp') := by
  have hlt := hk.m.lt
  have HC := Lib.hid hc
  have HK := Lib.hid hk
  have HMS := Lib.hid hms
  have HMP := Lib.hid hmp
  have HMT := Lib.hid hmt
  have HRT := Lib.hid hrt
  have HTK := Lib.hid htk
  have HUP := Lib.hid hup
  have HUS := Lib.hid hus
  have HLT := Lib.hid hlt
  have HW1 := Lib.hid hW1
  clear hc hk hms hmp hmt hrt htk hup hus hlt hW1
  go_enter Tryz.func11, Tryz.ntmps11
  go_upto_region 6 with (first
    | (go_at_call 37
       refine (fits13 _).mono ?_
       rintro e w1 ⟨rfl, rfl⟩)
    | (go_at_call 38
       refine HTK.out.mono ?_
       rintro e w1 ⟨rfl, k1, o1⟩
       have hs1 : w.heap.size < w1.heap.size := by have := o1.size; simp at this; omega
       have s1 : St w w1 N SC W1 r1' rt es ep cs cp := by
         have z := HLT.out
         refine ⟨k1, o1.at (at_old _ HMS.out) (by simp), o1.at (at_old _ HMP.out) (by simp), (HMT.out.alloc _).only o1 (by simp), (HRT.out.alloc _).only o1 (by simp), z, (Blk.new _ _ rfl).only o1 (by simp; omega), ?_⟩
         exact ((Only.refl _ _).alloc _).trans (o1.mono (by simp))
       have S1 := Lib.hid s1
       have Z1 := Lib.hid hs1
       clear k1 o1 s1 hs1))
  -- the words are cleared
  go_cut [] (fun wx => St w wx N SC (wiped W1 0 4) r1' rt es ep cs cp ∧ w1.heap.size < wx.heap.size)
  case first =>
    have s2 := S1.out.alloc (.cells #[.int .i64 0, .int .i64 0] 47)
    generalize hu2 : w1.alloc (.cells #[.int .i64 0, .int .i64 0] 47) = u2 at s2 ⊢
    have hsz2 : u2.heap.size = w1.heap.size + 1 := by rw [← hu2]; simp
    have c2 := (s2.k.cells HC.out).1
    have HS2 := Lib.hid hsz2
    have S2 := Lib.hid s2
    clear s2 hu2 hsz2
    go_region_with (first
      | (go_at_call 39
         refine (wide3 _).mono ?_
         rintro e w3 ⟨rfl, hB3⟩
         have s3 := S2.out.drew.below hB3
         have c3 := (s3.k.cells HC.out).1
         have hcl := fun ty => run_clear27 w3 ty (N + 2) 0 4 (64 - 0) W1 (by omega) s3.k.wd (by rw [HW1.out]; omega)
         have S3 := Lib.hid s3
         have H3 := Lib.hid hB3.size
         clear s3 hB3))
    all_goals
      go_wp2_with fail
      go_meet
      refine ⟨S3.out.words _, ?_⟩
      have a := H3.out
      have b := HS2.out
      rw [setRow_size]
      simp at a
      omega
  case rest =>
  obtain ⟨s4, hz4⟩ := hcut
  have c4 := (s4.k.cells HC.out).1
  have d4 : wc.cell? ⟨N + 2, 0, none⟩ = some (.int .i64 0) := by rw [s4.k.wd.cell, wiped_get _ _ _ _ (by rw [HW1.out]; omega)]; simp
  have f4 : wc.frozen? ⟨N + 2, 0, none⟩ = false := s4.k.wd.free _
  have S4 := Lib.hid s4
  have H4 := Lib.hid hz4
  clear s4 hz4
  go_upto_region 7 with fail
  go_cut [] (fun wx => (∃ h : Int, St w wx N SC ((wiped W1 0 4).setIfInBounds 0 (.int .i64 h)) r1' rt es ep cs cp) ∧ w1.heap.size < wx.heap.size)
  case first =>
    go_region_with (go_at_call 40; refine (make_any _ _ (by omega) (by omega)).mono ?_; rintro e w5 ⟨hd, rfl, rfl⟩)
    all_goals
      go_wp2_with fail
      go_meet
      exact ⟨⟨hd, (S4.out.word _ _).drew⟩, by have := H4.out; simpa using this⟩
  case rest =>
  obtain ⟨⟨hd, s5⟩, hz5⟩ := hcut
  have c13 : wc.cell? ⟨N + 5, 13, none⟩ = some (.int .i64 se) := by rw [s5.k.s.cell]; exact HC.out.a13
  have f13 : wc.frozen? ⟨N + 5, 13, none⟩ = false := s5.k.s.free _
  have l5 : N + 5 < wc.heap.size := s5.k.s.lt
  have S5 := Lib.hid s5
  have H5 := Lib.hid hz5
  have q1 := hse.1
  have q2 := hse.2
  have q3 := hro.1
  have q4 := hro.2
  clear s5 hz5 hse hro
  go_upto_region 12 with (go_at_call 41; refine (numbered1 _).mono ?_; rintro e w7 ⟨rfl, rfl⟩)
  have s6 := (S5.out.field 13 (.int .i64 (se + 1))).alloc (.cells #[.int .i64 1, .int .i64 3, .int .i64 (se + 1), .int .i64 0] 88)
  have x6 : Blk ((wc.setCell ⟨N + 5, 13, none⟩ (.int .i64 (se + 1))).alloc (.cells #[.int .i64 1, .int .i64 3, .int .i64 (se + 1), .int .i64 0] 88)) wc.heap.size #[.int .i64 1, .int .i64 3, .int .i64 (se + 1), .int .i64 0] 88 := Blk.new _ _ (by simp)
  have hX : w.heap.size < wc.heap.size := by have := Z1.out; have := H5.out; omega
  have hc6 := HC.out.serial (se + 1)
  have HC6 := Lib.hid hc6
  have HX := Lib.hid hX
  clear hc6 hX
  generalize wc.heap.size = X at x6 HX ⊢
  generalize (wc.setCell ⟨N + 5, 13, none⟩ (.int .i64 (se + 1))).alloc (.cells #[.int .i64 1, .int .i64 3, .int .i64 (se + 1), .int .i64 0] 88) = u6 at s6 x6 ⊢
  have S6 := Lib.hid s6
  have X6 := Lib.hid x6
  clear s6 x6
  go_cut [] (fun wx => St w wx N (SC.setIfInBounds 13 (.int .i64 (se + 1))) ((wiped W1 0 4).setIfInBounds 0 (.int .i64 hd)) r1' rt es ep' cs cp' ∧ Blk wx X #[.int .i64 1, .int .i64 3, .int .i64 (se + 1), .int .i64 0] 88)
  case first =>
    have c12 : u6.cell? ⟨N + 5, 12, none⟩ = some (.map (some (N + 4))) := by rw [S6.out.k.s.cell]; exact HC6.out.a12
    have cX : u6.cell? ⟨X, 2, none⟩ = some (.int .i64 (se + 1)) := by rw [X6.out.cell]; rfl
    have hrun := HUP.out u6.drew S6.out.mp
    go_region
    all_goals
      go_wp2_with fail
      go_meet
      exact ⟨S6.out.drew.places, X6.out.drew.only ((Only.refl [N + 4] _).setObj (by simp) _) (by have := HX.out; have := HLT.out; simp; omega)⟩
  case rest =>
  obtain ⟨s7, x7⟩ := hcut
  have S7 := Lib.hid s7
  have X7 := Lib.hid x7
  clear s7 x7 S6 X6
  go_upto_region 13 with fail
  go_cut [] (fun wx => St w wx N (SC.setIfInBounds 13 (.int .i64 (se + 1))) ((wiped W1 0 4).setIfInBounds 0 (.int .i64 hd)) r1' rt es' ep' cs' cp')
  case first =>
    have c11 : wc.cell? ⟨N + 5, 11, none⟩ = some (.map (some (N + 3))) := by rw [S7.out.k.s.cell]; exact HC6.out.a11
    have cX0 : wc.cell? ⟨X, 0, none⟩ = some (.int .i64 1) := by rw [X7.out.cell]; rfl
    have cX1 : wc.cell? ⟨X, 1, none⟩ = some (.int .i64 3) := by rw [X7.out.cell]; rfl
    have cX2 : wc.cell? ⟨X, 2, none⟩ = some (.int .i64 (se + 1)) := by rw [X7.out.cell]; rfl
    have cX3 : wc.cell? ⟨X, 3, none⟩ = some (.int .i64 0) := by rw [X7.out.cell]; rfl
    have hrun := HUS.out wc.drew S7.out.ms
    go_region
    all_goals
      go_wp2_with fail
      go_meet
      exact S7.out.drew.shapes
  case rest =>
  have c2 : wc.cell? ⟨N + 5, 2, none⟩ = some (.pointer (some ⟨N + 7, 0, none⟩)) := by rw [hcut.k.s.cell]; exact HC6.out.a2
  have S8 := Lib.hid hcut
  clear hcut S7 X7
  go_upto_region 15 with (go_at_call 42
                          refine (set1 (N + 7) (N + 6) 0 rt _ (by omega) S8.out.mt S8.out.rt).mono ?_
                          rintro e w9 ⟨rfl, hr9, ho9⟩
                          have s9 := S8.out.taken hr9 ho9
                          have S9 := Lib.hid s9
                          clear hr9 ho9 s9)
  go_cut [] (fun wx => St w wx N ((SC.setIfInBounds 13 (.int .i64 (se + 1))).setIfInBounds 14 (.int .i64 (ro + 4))) ((wiped W1 0 4).setIfInBounds 0 (.int .i64 hd)) r1' (Go.bits .or .u64 rt (pt 0 (0 + 1))) es' ep' cs' cp')
  case first =>
    have c14 : w9.cell? ⟨N + 5, 14, none⟩ = some (.int .i64 ro) := by rw [S9.out.k.s.cell]; exact HC6.out.a14
    have f14 : w9.frozen? ⟨N + 5, 14, none⟩ = false := S9.out.k.s.free _
    have hwr : IntKind.i64.wrap (ro + 4) = ro + 4 := IntWalk.i64_in _ (by omega)
    go_region_with (first
      | (go_at_call 39
         refine (wide3 _).mono ?_
         rintro e w10 ⟨rfl, hB10⟩
         have s10 := S9.out.drew.below hB10
         have d14 : w10.cell? ⟨N + 5, 14, none⟩ = some (.int .i64 ro) := by rw [s10.k.s.cell]; exact HC6.out.a14
         have g14 : w10.frozen? ⟨N + 5, 14, none⟩ = false := s10.k.s.free _
         have S10 := Lib.hid s10
         clear s10 hB10))
    all_goals
      clear hwr
      go_wp2_with fail
      go_meet
      exact S10.out.field 14 _
  case rest =>
  have b0 : wc.cell? ⟨w.heap.size, 0, none⟩ = some (.int .i64 0) := by rw [hcut.b.cell]; rfl
  have b1 : wc.cell? ⟨w.heap.size, 1, none⟩ = some (.int .i64 0) := by rw [hcut.b.cell]; rfl
  have b2 : wc.frozen? ⟨w.heap.size, 0, none⟩ = false := hcut.b.free _
  have b3 : wc.frozen? ⟨w.heap.size, 1, none⟩ = false := hcut.b.free _
  have S11 := Lib.hid hcut
  clear hcut
  go_wp2_with fail
  refine bodyPost_ret (v := .tuple #[.int .i64 0, .agg #[.int .i64 0, .int .i64 0]]) ?_ rfl ⟨hd, rfl, ?_⟩
  · simp [results, Tryz.results11, go_sem, b0, b1]
  · exact (S11.out.res 0 (.inl rfl)).res 1 (.inr rfl)

set_option maxHeartbeats 1000000 in
theorem alloc4 (N : Nat) (SC W W1 : Array Value) (r1 r1' rt se ro : Int) (es ep es' ep' : Array MapEntry) (cs cp cs' cp' : Nat) (w : World)
    (hse : 0 ≤ se ∧ se ≤ 10) (hro : 0 ≤ ro ∧ ro ≤ 10) (hW1 : W1.size = 64)
    (hc : SCok N SC se ro) (hk : Tk w N SC W r1) (hms : w.heap[N + 3]? = some (.map es cs)) (hmp : w.heap[N + 4]? = some (.map ep cp))
    (hmt : Blk w (N + 7) (mapC (N + 6)) 128) (hrt : Blk w (N + 6) #[.int .u64 rt] 132)
    (htk : Calls Tryz.prog 38 #[.pointer (some ⟨N + 5, 0, none⟩), .int .i64 3] (w.alloc (.cells #[.int .i64 0, .int .i64 0] 47)) fun e w' =>
      e = .returned (.tuple #[.int .i64 4, .agg #[.int .i64 0, .int .i64 0]]) ∧ Tk w' N SC W1 r1' ∧ Only [N, N + 1, N + 2, N + 10] (w.alloc (.cells #[.int .i64 0, .int .i64 0] 47)) w')
    (hup : ∀ u : World, u.heap[N + 4]? = some (.map ep cp) → (Instr.mapUpdate 76 (.map (some (N + 4))) (.int .i64 (se + 1)) (.int .i64 4)).run Tryz.prog u = .ok () (setObjW u (N + 4) (.map ep' cp')))
    (hus : ∀ u : World, u.heap[N + 3]? = some (.map es cs) → (Instr.mapUpdate 75 (.map (some (N + 3))) (.int .i64 4) (.agg #[.int .i64 1, .int .i64 3, .int .i64 (se + 1), .int .i64 0])).run Tryz.prog u = .ok () (setObjW u (N + 3) (.map es' cs'))) :
    Calls Tryz.prog 11 #[.pointer (some ⟨N + 5, 0, none⟩), .int .i64 1, .int .i64 3, .int .i64 0] w
      (AllocPost w N 4 ((SC.setIfInBounds 13 (.int .i64 (se + 1))).setIfInBounds 14 (.int .i64 (ro + 4))) W1 r1' (Go.bits .or .u64 rt (pt 4 (4 + 1))) es' ep' cs' cp') := by
  have hlt := hk.m.lt
  have HC := Lib.hid hc
  have HK := Lib.hid hk
  have HMS := Lib.hid hms
  have HMP := Lib.hid hmp
  have HMT := Lib.hid hmt
  have HRT := Lib.hid hrt
  have HTK := Lib.hid htk
  have HUP := Lib.hid hup
  have HUS := Lib.hid hus
  have HLT := Lib.hid hlt
  have HW1 := Lib.hid hW1
  clear hc hk hms hmp hmt hrt htk hup hus hlt hW1
  go_enter Tryz.func11, Tryz.ntmps11
  go_upto_region 6 with (first
    | (go_at_call 37
       refine (fits13 _).mono ?_
       rintro e w1 ⟨rfl, rfl⟩)
    | (go_at_call 38
       refine HTK.out.mono ?_
       rintro e w1 ⟨rfl, k1, o1⟩
       have hs1 : w.heap.size < w1.heap.size := by have := o1.size; simp at this; omega
       have s1 : St w w1 N SC W1 r1' rt es ep cs cp := by
         have z := HLT.out
         refine ⟨k1, o1.at (at_old _ HMS.out) (by simp), o1.at (at_old _ HMP.out) (by simp), (HMT.out.alloc _).only o1 (by simp), (HRT.out.alloc _).only o1 (by simp), z, (Blk.new _ _ rfl).only o1 (by simp; omega), ?_⟩
         exact ((Only.refl _ _).alloc _).trans (o1.mono (by simp))
       have S1 := Lib.hid s1
       have Z1 := Lib.hid hs1
       clear k1 o1 s1 hs1))
  -- the words are cleared
  go_cut [] (fun wx => St w wx N SC (wiped W1 4 4) r1' rt es ep cs cp ∧ w1.heap.size < wx.heap.size)
  case first =>
    have s2 := S1.out.alloc (.cells #[.int .i64 0, .int .i64 0] 47)
    generalize hu2 : w1.alloc (.cells #[.int .i64 0, .int .i64 0] 47) = u2 at s2 ⊢
    have hsz2 : u2.heap.size = w1.heap.size + 1 := by rw [← hu2]; simp
    have c2 := (s2.k.cells HC.out).1
    have HS2 := Lib.hid hsz2
    have S2 := Lib.hid s2
    clear s2 hu2 hsz2
    go_region_with (first
      | (go_at_call 39
         refine (wide3 _).mono ?_
         rintro e w3 ⟨rfl, hB3⟩
         have s3 := S2.out.drew.below hB3
         have c3 := (s3.k.cells HC.out).1
         have hcl := fun ty => run_clear27 w3 ty (N + 2) 4 4 (64 - 4) W1 (by omega) s3.k.wd (by rw [HW1.out]; omega)
         have S3 := Lib.hid s3
         have H3 := Lib.hid hB3.size
         clear s3 hB3))
    all_goals
      go_wp2_with fail
      go_meet
      refine ⟨S3.out.words _, ?_⟩
      have a := H3.out
      have b := HS2.out
      rw [setRow_size]
      simp at a
      omega
  case rest =>
  obtain ⟨s4, hz4⟩ := hcut
  have c4 := (s4.k.cells HC.out).1
  have d4 : wc.cell? ⟨N + 2, 4, none⟩ = some (.int .i64 0) := by rw [s4.k.wd.cell, wiped_get _ _ _ _ (by rw [HW1.out]; omega)]; simp
  have f4 : wc.frozen? ⟨N + 2, 4, none⟩ = false := s4.k.wd.free _
  have S4 := Lib.hid s4
  have H4 := Lib.hid hz4
  clear s4 hz4
  go_upto_region 7 with fail
  go_cut [] (fun wx => (∃ h : Int, St w wx N SC ((wiped W1 4 4).setIfInBounds 4 (.int .i64 h)) r1' rt es ep cs cp) ∧ w1.heap.size < wx.heap.size)
  case first =>
    go_region_with (go_at_call 40; refine (make_any _ _ (by omega) (by omega)).mono ?_; rintro e w5 ⟨hd, rfl, rfl⟩)
    all_goals
      go_wp2_with fail
      go_meet
      exact ⟨⟨hd, (S4.out.word _ _).drew⟩, by have := H4.out; simpa using this⟩
  case rest =>
  obtain ⟨⟨hd, s5⟩, hz5⟩ := hcut
  have c13 : wc.cell? ⟨N + 5, 13, none⟩ = some (.int .i64 se) := by rw [s5.k.s.cell]; exact HC.out.a13
  have f13 : wc.frozen? ⟨N + 5, 13, none⟩ = false := s5.k.s.free _
  have l5 : N + 5 < wc.heap.size := s5.k.s.lt
  have S5 := Lib.hid s5
  have H5 := Lib.hid hz5
  have q1 := hse.1
  have q2 := hse.2
  have q3 := hro.1
  have q4 := hro.2
  clear s5 hz5 hse hro
  go_upto_region 12 with (go_at_call 41; refine (numbered1 _).mono ?_; rintro e w7 ⟨rfl, rfl⟩)
  have s6 := (S5.out.field 13 (.int .i64 (se + 1))).alloc (.cells #[.int .i64 1, .int .i64 3, .int .i64 (se + 1), .int .i64 0] 88)
  have x6 : Blk ((wc.setCell ⟨N + 5, 13, none⟩ (.int .i64 (se + 1))).alloc (.cells #[.int .i64 1, .int .i64 3, .int .i64 (se + 1), .int .i64 0] 88)) wc.heap.size #[.int .i64 1, .int .i64 3, .int .i64 (se + 1), .int .i64 0] 88 := Blk.new _ _ (by simp)
  have hX : w.heap.size < wc.heap.size := by have := Z1.out; have := H5.out; omega
  have hc6 := HC.out.serial (se + 1)
  have HC6 := Lib.hid hc6
  have HX := Lib.hid hX
  clear hc6 hX
  generalize wc.heap.size = X at x6 HX ⊢
  generalize (wc.setCell ⟨N + 5, 13, none⟩ (.int .i64 (se + 1))).alloc (.cells #[.int .i64 1, .int .i64 3, .int .i64 (se + 1), .int .i64 0] 88) = u6 at s6 x6 ⊢
  have S6 := Lib.hid s6
  have X6 := Lib.hid x6
  clear s6 x6
  go_cut [] (fun wx => St w wx N (SC.setIfInBounds 13 (.int .i64 (se + 1))) ((wiped W1 4 4).setIfInBounds 4 (.int .i64 hd)) r1' rt es ep' cs cp' ∧ Blk wx X #[.int .i64 1, .int .i64 3, .int .i64 (se + 1), .int .i64 0] 88)
  case first =>
    have c12 : u6.cell? ⟨N + 5, 12, none⟩ = some (.map (some (N + 4))) := by rw [S6.out.k.s.cell]; exact HC6.out.a12
    have cX : u6.cell? ⟨X, 2, none⟩ = some (.int .i64 (se + 1)) := by rw [X6.out.cell]; rfl
    have hrun := HUP.out u6.drew S6.out.mp
    go_region
    all_goals
      go_wp2_with fail
      go_meet
      exact ⟨S6.out.drew.places, X6.out.drew.only ((Only.refl [N + 4] _).setObj (by simp) _) (by have := HX.out; have := HLT.out; simp; omega)⟩
  case rest =>
  obtain ⟨s7, x7⟩ := hcut
  have S7 := Lib.hid s7
  have X7 := Lib.hid x7
  clear s7 x7 S6 X6
  go_upto_region 13 with fail
  go_cut [] (fun wx => St w wx N (SC.setIfInBounds 13 (.int .i64 (se + 1))) ((wiped W1 4 4).setIfInBounds 4 (.int .i64 hd)) r1' rt es' ep' cs' cp')
  case first =>
    have c11 : wc.cell? ⟨N + 5, 11, none⟩ = some (.map (some (N + 3))) := by rw [S7.out.k.s.cell]; exact HC6.out.a11
    have cX0 : wc.cell? ⟨X, 0, none⟩ = some (.int .i64 1) := by rw [X7.out.cell]; rfl
    have cX1 : wc.cell? ⟨X, 1, none⟩ = some (.int .i64 3) := by rw [X7.out.cell]; rfl
    have cX2 : wc.cell? ⟨X, 2, none⟩ = some (.int .i64 (se + 1)) := by rw [X7.out.cell]; rfl
    have cX3 : wc.cell? ⟨X, 3, none⟩ = some (.int .i64 0) := by rw [X7.out.cell]; rfl
    have hrun := HUS.out wc.drew S7.out.ms
    go_region
    all_goals
      go_wp2_with fail
      go_meet
      exact S7.out.drew.shapes
  case rest =>
  have c2 : wc.cell? ⟨N + 5, 2, none⟩ = some (.pointer (some ⟨N + 7, 0, none⟩)) := by rw [hcut.k.s.cell]; exact HC6.out.a2
  have S8 := Lib.hid hcut
  clear hcut S7 X7
  go_upto_region 15 with (go_at_call 42
                          refine (set1 (N + 7) (N + 6) 4 rt _ (by omega) S8.out.mt S8.out.rt).mono ?_
                          rintro e w9 ⟨rfl, hr9, ho9⟩
                          have s9 := S8.out.taken hr9 ho9
                          have S9 := Lib.hid s9
                          clear hr9 ho9 s9)
  go_cut [] (fun wx => St w wx N ((SC.setIfInBounds 13 (.int .i64 (se + 1))).setIfInBounds 14 (.int .i64 (ro + 4))) ((wiped W1 4 4).setIfInBounds 4 (.int .i64 hd)) r1' (Go.bits .or .u64 rt (pt 4 (4 + 1))) es' ep' cs' cp')
  case first =>
    have c14 : w9.cell? ⟨N + 5, 14, none⟩ = some (.int .i64 ro) := by rw [S9.out.k.s.cell]; exact HC6.out.a14
    have f14 : w9.frozen? ⟨N + 5, 14, none⟩ = false := S9.out.k.s.free _
    have hwr : IntKind.i64.wrap (ro + 4) = ro + 4 := IntWalk.i64_in _ (by omega)
    go_region_with (first
      | (go_at_call 39
         refine (wide3 _).mono ?_
         rintro e w10 ⟨rfl, hB10⟩
         have s10 := S9.out.drew.below hB10
         have d14 : w10.cell? ⟨N + 5, 14, none⟩ = some (.int .i64 ro) := by rw [s10.k.s.cell]; exact HC6.out.a14
         have g14 : w10.frozen? ⟨N + 5, 14, none⟩ = false := s10.k.s.free _
         have S10 := Lib.hid s10
         clear s10 hB10))
    all_goals
      clear hwr
      go_wp2_with fail
      go_meet
      exact S10.out.field 14 _
  case rest =>
  have b0 : wc.cell? ⟨w.heap.size, 0, none⟩ = some (.int .i64 0) := by rw [hcut.b.cell]; rfl
  have b1 : wc.cell? ⟨w.heap.size, 1, none⟩ = some (.int .i64 0) := by rw [hcut.b.cell]; rfl
  have b2 : wc.frozen? ⟨w.heap.size, 0, none⟩ = false := hcut.b.free _
  have b3 : wc.frozen? ⟨w.heap.size, 1, none⟩ = false := hcut.b.free _
  have S11 := Lib.hid hcut
  clear hcut
  go_wp2_with fail
  refine bodyPost_ret (v := .tuple #[.int .i64 4, .agg #[.int .i64 0, .int .i64 0]]) ?_ rfl ⟨hd, rfl, ?_⟩
  · simp [results, Tryz.results11, go_sem, b0, b1]
  · exact (S11.out.res 0 (.inl rfl)).res 1 (.inr rfl)
end Go.Proofs.YtkkkfaifkmmhpaaGreatDoor
