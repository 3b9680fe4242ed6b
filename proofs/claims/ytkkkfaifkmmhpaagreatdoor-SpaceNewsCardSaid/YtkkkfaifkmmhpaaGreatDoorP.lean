/- Rows of known cells, and what append makes of one: the new row, and that every row that tells the same cells goes on to tell them. -/
import Derived.Test.YtkkkfaifkmmhpaaGreatDoorO
import Derived.Maps.AppendAt
namespace Go.Proofs.YtkkkfaifkmmhpaaGreatDoor
open Go.RowKit
set_option maxRecDepth 100000

/-- The slice v, of len elements, lies from a block's start on; its cells are those of el. -/
def Row (w : World) (te : TypeId) (sz : Nat) (el : Nat → Value) (v : Value) (len : Nat) : Prop :=
  (v = .slice none 0 0 ∧ len = 0) ∨
  ∃ g cap cur, v = .slice (some ⟨g, 0, none⟩) len cap ∧ w.heap[g]? = some (.cells cur te (0, 0)) ∧ len ≤ cap ∧ cap ≤ maxLen ∧ cur.size = cap * sz ∧ ∀ t, t < len * sz → cur[t]? = some (el t)

theorem Row.nil (w : World) (te : TypeId) (sz : Nat) (el : Nat → Value) : Row w te sz el (.slice none 0 0) 0 := .inl ⟨rfl, rfl⟩

theorem Row.lt {w : World} {te : TypeId} {sz : Nat} {el : Nat → Value} {v : Value} {len b : Nat} (h : Row w te sz el v len) (hb : v.ownBlock = some b) : b < w.heap.size := by
  rcases h with ⟨rfl, _⟩ | ⟨g, cap, cur, rfl, hg, _⟩
  · simp [Value.ownBlock] at hb
  · simp [Value.ownBlock] at hb
    subst hb
    exact lt_of_block hg

theorem Row.same {w w' : World} {te : TypeId} {sz : Nat} {el : Nat → Value} {v : Value} {len : Nat} (h : Row w te sz el v len) (hw : ∀ b, v.ownBlock = some b → w'.heap[b]? = w.heap[b]?) : Row w' te sz el v len := by
  rcases h with hn | ⟨g, cap, cur, rfl, hg, hr⟩
  · exact .inl hn
  · refine .inr ⟨g, cap, cur, rfl, ?_, hr⟩
    rw [hw g (by simp [Value.ownBlock])]
    exact hg

theorem Row.only {w w' : World} {te : TypeId} {sz : Nat} {el : Nat → Value} {v : Value} {len : Nat} {S : List Nat} (h : Row w te sz el v len) (ho : Only S w w') (hS : ∀ b, v.ownBlock = some b → b ∉ S) : Row w' te sz el v len :=
  h.same fun b hb => ho.block b (h.lt hb) (hS b hb)

theorem Row.congr {w : World} {te : TypeId} {sz : Nat} {el el' : Nat → Value} {v : Value} {len : Nat} (h : Row w te sz el v len) (he : ∀ t, t < len * sz → el' t = el t) : Row w te sz el' v len := by
  rcases h with hn | ⟨g, cap, cur, rfl, hg, h1, h2, h3, h4⟩
  · exact .inl hn
  · exact .inr ⟨g, cap, cur, rfl, hg, h1, h2, h3, fun t ht => by rw [he t ht]; exact h4 t ht⟩

theorem Row.cells {w : World} {te : TypeId} {sz : Nat} {el : Nat → Value} {v : Value} {len g : Nat} (h : Row w te sz el v len) (hg : v.ownBlock = some g) (t : Nat) (ht : t < len * sz) : w.cell? ⟨g, t, none⟩ = some (el t) := by
  rcases h with ⟨rfl, _⟩ | ⟨g', cap, cur, rfl, hg', _, _, _, h4⟩
  · simp [Value.ownBlock] at hg
  · simp [Value.ownBlock] at hg
    subst hg
    rw [World.cell?, hg']
    exact h4 t ht

theorem add0 (g j : Nat) : (⟨g, 0, none⟩ : Addr).add j = ⟨g, j, none⟩ := by unfold Addr.add; split <;> simp_all

theorem Only.of_grown {w w' : World} {row : Option Nat} (h : w.grownBy w' row) : Only row.toList w w' :=
  ⟨h.os, h.tape, h.output, h.size, fun k hk hS => h.block k hk (fun e => hS (by rw [← e]; simp))⟩

/-- What an append leaves. -/
structure Appended (w w' : World) (te : TypeId) (sz : Nat) (el : Nat → Value) (v v' : Value) (len : Nat) : Prop where
  row : Row w' te sz el v' len
  only : Only v.ownBlock.toList w w'
  loc : v'.ownBlock = v.ownBlock ∨ v'.ownBlock = some w.heap.size
  some : v'.ownBlock ≠ none
  rows : ∀ u k, Row w te sz el u k → Row w' te sz el u k
  bound : ∀ b, v'.ownBlock = Option.some b → b < w'.heap.size

theorem run_append_row {P : Program} (w : World) (t ty te : TypeId) (i : TypeInfo) (z : Value) (sz bytes : Nat) (ht : P.underlying t = some (.slice te)) (hi : P.info? te = some i) (hz : i.zero = some z)
    (hsize : i.size = sz) (hby : i.bytes = bytes) (hzs : z.cells.size = sz) (hsz : 0 < sz) (el : Nat → Value) (h1 : ∀ t, (el t).oneCell' = true)
    (v : Value) (len : Nat) (hv : Row w te sz el v len) (a : Addr) (m c : Nat) (hm : 0 < m) (hcell : ∀ j, j < m * sz → w.cell? (a.add j) = some (el (len * sz + j)))
    (h63 : len + m ≤ maxLen) (hbytes : (len + m) * bytes ≤ 140737488355328) :
    ∃ g cap w', (Builtin.append_ #[t, t] ty #[v, .slice (some a) m c]).run P w = .ok (.slice (some ⟨g, 0, none⟩) (len + m) cap) w' ∧ Appended w w' te sz el v (.slice (some ⟨g, 0, none⟩) (len + m) cap) (len + m) := by
  subst hsize
  subst hby
  have hsmall : len + m ≤ 9223372036854775807 := by simp only [maxLen] at h63; omega
  have hnl : ((List.range (m * i.size)).map fun j => el (len * i.size + j)).length = m * i.size := by simp
  have hnews : ∀ j u, ((List.range (m * i.size)).map fun j => el (len * i.size + j))[j]? = Option.some u → w.cell? (a.add j) = Option.some u := by
    intro j u hu
    obtain ⟨hj, he⟩ := List.getElem?_eq_some_iff.1 hu
    rw [hnl] at hj
    simp at he
    rw [hcell j hj, he]
  have hnew : ∀ j, j < m * i.size → ((List.range (m * i.size)).map fun j => el (len * i.size + j))[j]? = Option.some (el (len * i.size + j)) := by
    intro j hj
    simp [hj]
  generalize hN : ((List.range (m * i.size)).map fun j => el (len * i.size + j)) = news at hnl hnews hnew
  have hone : ∀ u ∈ news, u.oneCell' = true := by
    intro u hu
    rw [← hN] at hu
    obtain ⟨j, _, rfl⟩ := List.mem_map.1 hu
    exact h1 _
  clear hN
  have grown : ∀ (olds : List Value) (cap : Nat) , olds.length = len * i.size → (∀ t, t < len * i.size → olds[t]? = Option.some (el t)) → len + m ≤ cap → cap ≤ maxLen →
      Appended w (w.drew.alloc (.cells (olds.toArray ++ news.toArray ++ Builtin.zeroCells z.cells (cap - (len + m))) te)) te i.size el v (.slice (Option.some ⟨w.heap.size, 0, none⟩) (len + m) cap) (len + m) := by
    intro olds cap ho hoe hge hcm
    refine ⟨.inr ⟨w.heap.size, cap, _, rfl, heap_alloc_new w.drew _, hge, hcm, ?_, ?_⟩, ⟨rfl, rfl, rfl, by simp, fun k hk _ => (by rw [heap_alloc, if_neg (by simp; omega)]; rfl)⟩, .inr rfl, by simp [Value.ownBlock], ?_, ?_⟩
    · simp only [Array.size_append, List.size_toArray, size_zeroCells, hzs, ho, hnl, ← Nat.add_mul]
      congr 1
      omega
    · intro t ht
      have ha : (olds.toArray ++ news.toArray ++ Builtin.zeroCells z.cells (cap - (len + m)))[t]? = (olds ++ news)[t]? := by
        rw [Array.getElem?_append_left (by simp [ho, hnl, ← Nat.add_mul]; exact ht), List.append_toArray]
        simp
      rw [ha]
      by_cases hlt : t < len * i.size
      · rw [List.getElem?_append_left (by omega)]
        exact hoe t hlt
      · rw [List.getElem?_append_right (by omega), ho]
        have hj : t - len * i.size < m * i.size := by rw [Nat.add_mul] at ht; omega
        rw [hnew _ hj]
        congr 2
        omega
    · intro u k hu
      exact hu.same fun b hb => by
        have := hu.lt hb
        rw [heap_alloc, if_neg (by simp; omega)]; rfl
    · intro b hb
      simp [Value.ownBlock] at hb
      subst hb
      simp
  rcases hv with ⟨rfl, rfl⟩ | ⟨g, cap, cur, rfl, hg, hnc, hcm, hcs, hce⟩
  · have hr := run_append_nil (P := P) w t ty te i z ht hi hz a m c news hnl hnews hm (by omega) (by have hb := hbytes; simp only [Nat.zero_add] at hb; omega)
    have hgr := grown [] (grownCap w m 0 te) (by simp) (by simp) (by have := grownCap_ge w m 0 te; omega) (grownCap_le_maxLen w m 0 te (by omega))
    simp only [Nat.zero_add, Array.empty_append, List.nil_append] at hgr ⊢
    exact ⟨_, _, _, hr, hgr⟩
  · by_cases hroom : len + m ≤ cap
    · have hfit : len * i.size + news.length ≤ cur.size := by rw [hnl, hcs, ← Nat.add_mul]; exact Nat.mul_le_mul_right _ hroom
      have hr := run_append_room (P := P) w t ty te i ht hi g len cap cur hg a m c news hnl hnews hone hroom hfit
      have hl' : (len + m) * i.size = len * i.size + m * i.size := Nat.add_mul _ _ _
      have hnsz : (cur.toList.take (len * i.size) ++ news ++ cur.toList.drop (len * i.size + news.length)).toArray.size = cur.size := by
        simp only [List.size_toArray, List.length_append, List.length_take, List.length_drop, Array.length_toList]
        omega
      have hnc' : ∀ t, t < cur.size → (t < (len + m) * i.size → (cur.toList.take (len * i.size) ++ news ++ cur.toList.drop (len * i.size + news.length)).toArray[t]? = Option.some (el t)) ∧
          ((len + m) * i.size ≤ t → (cur.toList.take (len * i.size) ++ news ++ cur.toList.drop (len * i.size + news.length)).toArray[t]? = cur[t]?) := by
        intro t ht
        have htk : (cur.toList.take (len * i.size)).length = len * i.size := by simp; omega
        refine ⟨fun hlt => ?_, fun hge => ?_⟩
        · by_cases h : t < len * i.size
          · simp only [List.getElem?_toArray]
            rw [List.append_assoc, List.getElem?_append_left (by omega), List.getElem?_take_of_lt h]
            simpa using hce t h
          · simp only [List.getElem?_toArray]
            rw [List.append_assoc, List.getElem?_append_right (by omega), htk, List.getElem?_append_left (by omega), hnew _ (by omega)]
            congr 2
            omega
        · simp only [List.getElem?_toArray]
          rw [List.getElem?_append_right (by simp [hnl]; omega)]
          simp only [List.length_append, htk, hnl, List.getElem?_drop]
          have e : len * i.size + m * i.size + (t - (len * i.size + m * i.size)) = t := by omega
          rw [e]
          simp
      refine ⟨_, _, _, hr, ⟨.inr ⟨g, cap, _, rfl, setRow_heap w g cur _ te _ hg, hroom, hcm, by rw [hnsz, hcs], ?_⟩,
        ⟨rfl, rfl, rfl, by simp, fun k _ hk => setRow_other w g k _ (fun e => hk (by simp [Value.ownBlock, e]))⟩, .inl rfl, by simp [Value.ownBlock], ?_, ?_⟩⟩
      · intro t ht
        exact (hnc' t (by omega)).1 ht
      · intro u k hu
        rcases hu with hn | ⟨g', cap', cur', rfl, hg', h5, h6, h7, h8⟩
        · exact .inl hn
        · by_cases hgg : g' = g
          · subst hgg
            have hcc : cur' = cur := by rw [hg] at hg'; simpa using hg'.symm
            subst hcc
            refine .inr ⟨g', cap', _, rfl, setRow_heap w g' cur' _ te _ hg, h5, h6, by rw [hnsz, h7], ?_⟩
            intro t ht
            have hts : t < cur'.size := by rw [h7]; exact Nat.lt_of_lt_of_le ht (Nat.mul_le_mul_right _ h5)
            by_cases hlt : t < (len + m) * i.size
            · exact (hnc' t hts).1 hlt
            · rw [(hnc' t hts).2 (by omega)]
              exact h8 t ht
          · exact .inr ⟨g', cap', cur', rfl, by rw [setRow_other w g g' _ hgg]; exact hg', h5, h6, h7, h8⟩
      · intro b hb
        simp [Value.ownBlock] at hb
        subst hb
        have := lt_of_block hg
        simpa using this
    · have hr := run_append_grow (P := P) w t ty te i z ht hi hz ⟨g, 0, none⟩ len cap (cur.toList.take (len * i.size)) (by
          simp; rw [hcs]; exact Nat.min_eq_left (Nat.mul_le_mul_right _ hnc)) (by
          intro j u hu
          rw [add0, World.cell?, hg]
          rw [List.getElem?_take] at hu
          split at hu
          · simpa using hu
          · cases hu) a m c news hnl hnews (by omega) (by omega) (growslice_fits (by omega) hbytes)
      have hgr := grown (cur.toList.take (len * i.size)) (grownCap w (len + m) cap te) (by
          simp; rw [hcs]; exact Nat.min_eq_left (Nat.mul_le_mul_right _ hnc)) (by
          intro t ht
          rw [List.getElem?_take_of_lt ht]
          simpa using hce t ht) (grownCap_ge w (len + m) cap te) (grownCap_le_maxLen w (len + m) cap te h63)
      exact ⟨_, _, _, hr, hgr⟩
end Go.Proofs.YtkkkfaifkmmhpaaGreatDoor
