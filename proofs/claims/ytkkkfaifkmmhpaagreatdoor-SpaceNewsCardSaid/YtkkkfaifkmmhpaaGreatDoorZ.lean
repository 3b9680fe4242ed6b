/- keep: markPages, markBlocks. -/
import Derived.Test.YtkkkfaifkmmhpaaGreatDoorY
namespace Go.Proofs.YtkkkfaifkmmhpaaGreatDoor
open Go.RowKit
set_option maxRecDepth 100000

set_option maxHeartbeats 4000000 in
theorem markP (own0 : Nat → Prop) (p : Nat) (C : Array Value) (g cap len n fc sc : Nat) (fa sa : Option Addr) (w : World) (hC : C.size = 14) (hp : Blk w p C 45)
    (hCa : C[9]? = some (.slice fa n fc)) (hCb : C[12]? = some (.slice sa n sc)) (hf : FullSt qP w n (.slice fa n fc) (.slice sa n sc) own0) (hown : ∀ x, own0 x → x < w.heap.size)
    (hl : Row w 139 3 el0 (.slice (some ⟨g, 0, none⟩) len cap) len) (hg : ¬ own0 g) (hn : n ≤ 1000) (hlen : len ≤ 2000) :
    Calls Tryz.prog 78 #[.pointer (some ⟨p, 2, none⟩), .slice (some ⟨g, 0, none⟩) len cap] w (MarkPost qP w own0 p C (.slice (some ⟨g, 0, none⟩) len cap) n) := by
  have hgp : g ≠ p := hl.ne hp (by decide)
  have hgl := hl.lt (b := g) rfl
  obtain ⟨cur, hcur, hcl, hcm, hcs⟩ : ∃ cur, Blk w g cur 139 ∧ len ≤ cap ∧ cap ≤ maxLen ∧ cur.size = cap * 3 := by
    rcases hl with ⟨h, _⟩ | ⟨g', cap', cur, h, h1, h2, h3, h4, _⟩
    · simp at h
    · simp at h
      obtain ⟨rfl, rfl⟩ := h
      exact ⟨cur, h1, h2, h3, by omega⟩
  have cSg : w.cell? ⟨p, 12, none⟩ = some (.slice sa n sc) := by rw [hp.cell]; exact hCb
  have HP := Lib.hid hp
  have HCa := Lib.hid hCa
  have HCb := Lib.hid hCb
  have HC := Lib.hid hC
  have HF := Lib.hid hf
  have HOWN := Lib.hid hown
  have HG := Lib.hid hg
  have HGP := Lib.hid hgp
  have HGL := Lib.hid hgl
  have HCUR := Lib.hid hcur
  have HCL := Lib.hid hcl
  have HCM := Lib.hid hcm
  have HCS := Lib.hid hcs
  clear hp hCa hCb hC hf hown hl hg hgp hgl hcur hcl hcm hcs
  go_enter Tryz.func78, Tryz.ntmps78
  go_wp2_with fail
  go_loopw [5] (fun c wr => ∃ k : Nat, k ≤ len ∧ c = .int .i64 k ∧ ∃ cu : Array Value, Blk wr g cu 139 ∧ cu.size = cap * 3 ∧ (∀ t, t < k * 3 → cu[t]? = some (qP.el (1000003 + (n : Int)) t)) ∧ Only [g] w wr) (fun c _ => len - (intOf c).toNat)
  case atStart => exact ⟨0, by omega, by simp, cur, HCUR.out, HCS.out, fun t ht => by omega, Only.refl _ _⟩
  case round =>
    obtain ⟨k, hk, rfl, cu, hb, hcs, hct, ho⟩ := hrel
    by_cases hlt : k < len
    · have hlt' : (k : Int) < (len : Int) := by omega
      obtain ⟨x0, hx0⟩ : ∃ x, cu[k * 3]? = some x := ⟨_, Array.getElem?_eq_getElem (by have := HCL.out; omega)⟩
      obtain ⟨x1, hx1⟩ : ∃ x, cu[k * 3 + 1]? = some x := ⟨_, Array.getElem?_eq_getElem (by have := HCL.out; omega)⟩
      obtain ⟨x2, hx2⟩ : ∃ x, cu[k * 3 + 2]? = some x := ⟨_, Array.getElem?_eq_getElem (by have := HCL.out; omega)⟩
      have b0 : wr.cell? ⟨g, k * 3, none⟩ = some x0 := by rw [hb.cell]; exact hx0
      have b1 : wr.cell? ⟨g, k * 3 + 1, none⟩ = some x1 := by rw [hb.cell]; exact hx1
      have b2 : wr.cell? ⟨g, k * 3 + 2, none⟩ = some x2 := by rw [hb.cell]; exact hx2
      have d0 : wr.frozen? ⟨g, k * 3, none⟩ = false := hb.free _
      have d1 : wr.frozen? ⟨g, k * 3 + 1, none⟩ = false := hb.free _
      have d2 : wr.frozen? ⟨g, k * 3 + 2, none⟩ = false := hb.free _
      clear hx0 hx1 hx2
      have HB := Lib.hid hb
      have HCS1 := Lib.hid hcs
      have HCT := Lib.hid hct
      have HO := Lib.hid ho
      clear hb hcs hct ho
      go_wp2_with fail
      go_roundw
      case rel =>
        refine ⟨k + 1, by omega, by go_num, _, ((HB.out.setCell_same (k * 3) _).setCell_same (k * 3 + 1) _).setCell_same (k * 3 + 2) _, by simpa using HCS1.out, ?_, ((HO.out.setCell (by simp) _).setCell (by simp) _).setCell (by simp) _⟩
        intro t ht
        have hs1 := HCS1.out
        have hs2 := HCL.out
        by_cases e2 : t = k * 3 + 2
        · subst e2
          rw [Array.getElem?_setIfInBounds_self_of_lt (by simp; omega)]
          show _ = some (Value.int .i64 (if (k * 3 + 2) % 3 = 0 then _ else _))
          rw [if_neg (by omega)]
        · rw [Array.getElem?_setIfInBounds_ne (by omega)]
          by_cases e1 : t = k * 3 + 1
          · subst e1
            rw [Array.getElem?_setIfInBounds_self_of_lt (by simp; omega)]
            show _ = some (Value.int .i64 (if (k * 3 + 1) % 3 = 0 then _ else _))
            rw [if_neg (by omega)]
          · rw [Array.getElem?_setIfInBounds_ne (by omega)]
            by_cases e0 : t = k * 3
            · subst e0
              rw [Array.getElem?_setIfInBounds_self_of_lt (by omega)]
              show _ = some (Value.int .i64 (if (k * 3) % 3 = 0 then _ else _))
              rw [if_pos (by omega)]
            · rw [Array.getElem?_setIfInBounds_ne (by omega)]
              exact HCT.out t (by omega)
      case measure => simp [intOf] <;> omega
    · obtain rfl : k = len := by omega
      have hrow : Row wr 139 3 (qP.el (1000003 + (n : Int))) (.slice (some ⟨g, 0, none⟩) k cap) k := .inr ⟨g, cap, cu, rfl, hb, HCL.out, HCM.out, hcs, fun t ht => hct t ht⟩
      have st : St2 qP w own0 p C (.slice (some ⟨g, 0, none⟩) k cap) k (1000003 + (n : Int)) wr n (.slice fa n fc) (.slice sa n sc) := St2.start qPok HF.out HOWN.out HP.out HCa.out HCb.out hrow ho (by intro x hx; simp [Value.ownBlock] at hx; subst hx; exact ⟨HG.out, HGL.out⟩) (by simp [Value.ownBlock]; exact HGP.out)
      obtain ⟨s1, s2⟩ := st.cells qPok HC.out
      have s1' : wr.cell? ⟨p, 9, none⟩ = some (.slice fa n fc) := s1
      have s2' : wr.cell? ⟨p, 12, none⟩ = some (.slice sa n sc) := s2
      have ST := Lib.hid st
      clear hb hcs hct ho hrow st s1 s2 cSg
      go_wp2_with (first
        | (at_builtin; refine wpList_full qPok HC.out ST.out (by omega) ST.out.lv rfl rfl _ _ 40 67 rfl rfl rfl rfl rfl (by simp) ?_
           intro gf cf wf hh hcc
           have k1 : wf.cell? ⟨p, 9, none⟩ = some (.slice fa n fc) := hcc.1
           have k2 : wf.frozen? ⟨p, 9, none⟩ = false := hcc.2.1
           have k3 : wf.cell? ⟨p, 12, none⟩ = some (.slice sa n sc) := hcc.2.2
           have SH := Lib.hid hh
           clear hh hcc)
        | (at_builtin; refine wpList_sign qPok HC.out SH.out (by omega) rfl _ _ rfl rfl rfl (by simp) ?_
           intro gs cs ws hh hcc
           have l1 : ws.cell? ⟨p, 12, none⟩ = some (.slice sa n sc) := hcc.1
           have l2 : ws.frozen? ⟨p, 12, none⟩ = false := hcc.2
           have S2 := Lib.hid hh
           clear hh hcc))
      go_loopw [6] (fun c wr2 => ∃ e x : Nat, e ≤ 7 ∧ x = 2 ^ e ∧ c = .int .i64 (x : Int) ∧ ∃ fa' ca' sa' cb', St2 qP w own0 p C (.slice (some ⟨g, 0, none⟩) k cap) k (1000003 + (n : Int)) wr2 (n + 1 + e) (.slice fa' (n + 1 + e) ca') (.slice sa' (n + 1 + e) cb')) (fun c _ => 128 - (intOf c).toNat)
      case atStart => exact ⟨0, 1, by omega, rfl, rfl, _, _, _, _, S2.out⟩
      case round =>
        obtain ⟨e, x, he, hx, rfl, fa', ca', sa', cb', st⟩ := hrel
        have hx1 : 1 ≤ x := by rw [hx]; exact pow_pos' e he
        have hx2 : x ≤ 128 := by rw [hx]; exact pow_top e he
        have ST2 := Lib.hid st
        clear st s1' s2' k1 k2 k3 l1 l2
        by_cases hle : x ≤ 80
        · have he1 : e + 1 ≤ 7 := pow_le e he (by rw [← hx]; exact hle)
          have hle' : (x : Int) ≤ 80 := by omega
          have HX := Lib.hid hx
          clear hx
          go_wp2_with fail
          go_loopw [7, 8] (fun d c wr3 => ∃ j : Nat, j ≤ x ∧ c = .int .i64 (j : Int) ∧ St2 qP w own0 p C (.slice (some ⟨g, 0, none⟩) k cap) k (1000003 + (n : Int)) wr3 (n + 1 + e) (.slice fa' (n + 1 + e) ca') (.slice sa' (n + 1 + e) cb') ∧
              Far 139 3 qP.el w (.slice (some ⟨g, 0, none⟩) k cap) (1000003 + (n : Int)) (.slice sa' (n + 1 + e) cb') wr3 d (k + j)) (fun _ c _ => x - (intOf c).toNat)
          case atStart => exact ⟨0, by omega, rfl, ST2.out, ST2.out.lv⟩
          case round =>
            obtain ⟨j, hj, rfl, st3, fv3⟩ := hrel
            by_cases hlt : j < x
            · have hlt' : (j : Int) < (x : Int) := by omega
              have ST3 := Lib.hid st3
              have FV3 := Lib.hid fv3
              clear st3 fv3
              go_wp2_with (at_builtin; refine wpList_far qPok ST3.out FV3.out (by omega) (cs := #[.int .i64 (1000003 + (n : Int)), .int .i64 0, .int .i64 0]) ⟨rfl, fun i hi => by obtain rfl | rfl | rfl : i = 0 ∨ i = 1 ∨ i = 2 := by { simp at hi; omega }; all_goals rfl⟩ rfl _ _ 67 139 rfl rfl rfl rfl rfl (by simp) ?_
                           intro gx cx wx hh hh2
                           have ST4 := Lib.hid hh
                           have FV4 := Lib.hid hh2
                           clear hh hh2)
              go_roundw
              case rel => exact ⟨j + 1, by omega, by go_num, ST4.out, FV4.out⟩
              case measure => simp [intOf] <;> omega
            · obtain rfl : j = x := by omega
              obtain ⟨va, vc, rfl⟩ := fv3.row.form
              obtain ⟨t1, t2⟩ := st3.cells qPok HC.out
              have t1' : wr.cell? ⟨p, 9, none⟩ = some (.slice fa' (n + 1 + e) ca') := t1
              have ST3 := Lib.hid st3
              have FV3 := Lib.hid fv3
              clear st3 fv3 t1 t2
              go_wp2_with (first
                | (at_builtin; refine wpList_full qPok HC.out ST3.out (by omega) FV3.out rfl rfl _ _ 40 67 rfl rfl rfl rfl rfl (by simp) ?_
                   intro gf cf wf hh hcc
                   have k1 : wf.cell? ⟨p, 9, none⟩ = some (.slice fa' (n + 1 + e) ca') := hcc.1
                   have k2 : wf.frozen? ⟨p, 9, none⟩ = false := hcc.2.1
                   have k3 : wf.cell? ⟨p, 12, none⟩ = some (.slice sa' (n + 1 + e) cb') := hcc.2.2
                   have SH5 := Lib.hid hh
                   clear hh hcc)
                | (at_builtin; refine wpList_sign qPok HC.out SH5.out (by omega) rfl _ _ rfl rfl rfl (by simp) ?_
                   intro gs cs ws hh hcc
                   have l1 : ws.cell? ⟨p, 12, none⟩ = some (.slice sa' (n + 1 + e) cb') := hcc.1
                   have l2 : ws.frozen? ⟨p, 12, none⟩ = false := hcc.2
                   have S6 := Lib.hid hh
                   clear hh hcc))
              go_roundw
              case rel => exact ⟨e + 1, j + j, he1, by rw [Nat.pow_succ, ← HX.out]; omega, by go_num, _, _, _, _, S6.out⟩
              case measure => simp [intOf] <;> omega
        · have he7 : e = 7 := pow_gt e he (by rw [← hx]; exact hle)
          have hle' : ¬ ((x : Int) ≤ 80) := by omega
          clear hx
          go_wp2_with fail
          go_end0
          subst he7
          exact ST2.out.fin
set_option maxHeartbeats 4000000 in
theorem markB (own0 : Nat → Prop) (p : Nat) (C : Array Value) (n fc sc : Nat) (fa sa : Option Addr) (w : World) (hC : C.size = 14) (hp : Blk w p C 45)
    (hCa : C[10]? = some (.slice fa n fc)) (hCb : C[13]? = some (.slice sa n sc)) (hf : FullSt qB w n (.slice fa n fc) (.slice sa n sc) own0) (hown : ∀ x, own0 x → x < w.heap.size)
    (hn : n ≤ 1000) :
    Calls Tryz.prog 64 #[.pointer (some ⟨p, 2, none⟩), .slice none 0 0] w (MarkPost qB w own0 p C (.slice none 0 0) n) := by
  have cSg : w.cell? ⟨p, 13, none⟩ = some (.slice sa n sc) := by rw [hp.cell]; exact hCb
  have HP := Lib.hid hp
  have HCa := Lib.hid hCa
  have HCb := Lib.hid hCb
  have HC := Lib.hid hC
  have HF := Lib.hid hf
  have HOWN := Lib.hid hown
  clear hp hCa hCb hC hf hown
  go_enter Tryz.func64, Tryz.ntmps64
  go_wp2_with fail
  have st : St2 qB w own0 p C (.slice none 0 0) 0 (1000003 + (n : Int)) w n (.slice fa n fc) (.slice sa n sc) := St2.start qBok HF.out HOWN.out HP.out HCa.out HCb.out (Row.nil _ _ _ _) (Only.refl _ _) (by simp [Value.ownBlock]) (by simp [Value.ownBlock])
  refine wp_loop_rounds 1 ?_
  rw [rounds_succ]
  obtain ⟨s1, s2⟩ := st.cells qBok HC.out
  have s1' : w.cell? ⟨p, 10, none⟩ = some (.slice fa n fc) := s1
  have s2' : w.cell? ⟨p, 13, none⟩ = some (.slice sa n sc) := s2
  have ST := Lib.hid st
  clear st s1 s2 cSg
  go_wp2_with (first
    | (at_builtin; refine wpList_full qBok HC.out ST.out (by omega) ST.out.lv rfl rfl _ _ 41 59 rfl rfl rfl rfl rfl (by simp) ?_
       intro gf cf wf hh hcc
       have k1 : wf.cell? ⟨p, 10, none⟩ = some (.slice fa n fc) := hcc.1
       have k2 : wf.frozen? ⟨p, 10, none⟩ = false := hcc.2.1
       have k3 : wf.cell? ⟨p, 13, none⟩ = some (.slice sa n sc) := hcc.2.2
       have SH := Lib.hid hh
       clear hh hcc)
    | (at_builtin; refine wpList_sign qBok HC.out SH.out (by omega) rfl _ _ rfl rfl rfl (by simp) ?_
       intro gs cs ws hh hcc
       have l1 : ws.cell? ⟨p, 13, none⟩ = some (.slice sa n sc) := hcc.1
       have l2 : ws.frozen? ⟨p, 13, none⟩ = false := hcc.2
       have S2 := Lib.hid hh
       clear hh hcc))
  go_loopw [6] (fun c wr2 => ∃ e x : Nat, e ≤ 7 ∧ x = 2 ^ e ∧ c = .int .i64 (x : Int) ∧ ∃ fa' ca' sa' cb', St2 qB w own0 p C (.slice none 0 0) 0 (1000003 + (n : Int)) wr2 (n + 1 + e) (.slice fa' (n + 1 + e) ca') (.slice sa' (n + 1 + e) cb')) (fun c _ => 128 - (intOf c).toNat)
  case atStart => exact ⟨0, 1, by omega, rfl, rfl, _, _, _, _, S2.out⟩
  case round =>
    obtain ⟨e, x, he, hx, rfl, fa', ca', sa', cb', st⟩ := hrel
    have hx1 : 1 ≤ x := by rw [hx]; exact pow_pos' e he
    have hx2 : x ≤ 128 := by rw [hx]; exact pow_top e he
    have ST2 := Lib.hid st
    clear st s1' s2' k1 k2 k3 l1 l2
    by_cases hle : x ≤ 80
    · have he1 : e + 1 ≤ 7 := pow_le e he (by rw [← hx]; exact hle)
      have hle' : (x : Int) ≤ 80 := by omega
      have HX := Lib.hid hx
      clear hx
      go_wp2_with fail
      go_loopw [7, 8] (fun d c wr3 => ∃ j : Nat, j ≤ x ∧ c = .int .i64 (j : Int) ∧ St2 qB w own0 p C (.slice none 0 0) 0 (1000003 + (n : Int)) wr3 (n + 1 + e) (.slice fa' (n + 1 + e) ca') (.slice sa' (n + 1 + e) cb') ∧
          Far 91 5 qB.el w (.slice none 0 0) (1000003 + (n : Int)) (.slice sa' (n + 1 + e) cb') wr3 d j) (fun _ c _ => x - (intOf c).toNat)
      case atStart => exact ⟨0, by omega, rfl, ST2.out, ST2.out.lv⟩
      case round =>
        obtain ⟨j, hj, rfl, st3, fv3⟩ := hrel
        by_cases hlt : j < x
        · have hlt' : (j : Int) < (x : Int) := by omega
          have ST3 := Lib.hid st3
          have FV3 := Lib.hid fv3
          clear st3 fv3
          go_wp2_with (at_builtin; refine wpList_far qBok ST3.out FV3.out (by omega) (cs := #[.int .i64 0, .int .i64 (1000003 + (n : Int)), .int .i64 0, .int .i64 0, .int .i64 0]) ⟨rfl, fun i hi => by obtain rfl | rfl | rfl | rfl | rfl : i = 0 ∨ i = 1 ∨ i = 2 ∨ i = 3 ∨ i = 4 := by { simp at hi; omega }; all_goals rfl⟩ rfl _ _ 59 91 rfl rfl rfl rfl rfl (by simp) ?_
                       intro gx cx wx hh hh2
                       have ST4 := Lib.hid hh
                       have FV4 := Lib.hid hh2
                       clear hh hh2)
          go_roundw
          case rel => exact ⟨j + 1, by omega, by go_num, ST4.out, FV4.out⟩
          case measure => simp [intOf] <;> omega
        · obtain rfl : j = x := by omega
          obtain ⟨va, vc, rfl⟩ := fv3.row.form
          obtain ⟨t1, t2⟩ := st3.cells qBok HC.out
          have t1' : wr.cell? ⟨p, 10, none⟩ = some (.slice fa' (n + 1 + e) ca') := t1
          have ST3 := Lib.hid st3
          have FV3 := Lib.hid fv3
          clear st3 fv3 t1 t2
          go_wp2_with (first
            | (at_builtin; refine wpList_full qBok HC.out ST3.out (by omega) FV3.out rfl rfl _ _ 41 59 rfl rfl rfl rfl rfl (by simp) ?_
               intro gf cf wf hh hcc
               have k1 : wf.cell? ⟨p, 10, none⟩ = some (.slice fa' (n + 1 + e) ca') := hcc.1
               have k2 : wf.frozen? ⟨p, 10, none⟩ = false := hcc.2.1
               have k3 : wf.cell? ⟨p, 13, none⟩ = some (.slice sa' (n + 1 + e) cb') := hcc.2.2
               have SH5 := Lib.hid hh
               clear hh hcc)
            | (at_builtin; refine wpList_sign qBok HC.out SH5.out (by omega) rfl _ _ rfl rfl rfl (by simp) ?_
               intro gs cs ws hh hcc
               have l1 : ws.cell? ⟨p, 13, none⟩ = some (.slice sa' (n + 1 + e) cb') := hcc.1
               have l2 : ws.frozen? ⟨p, 13, none⟩ = false := hcc.2
               have S6 := Lib.hid hh
               clear hh hcc))
          go_roundw
          case rel => exact ⟨e + 1, j + j, he1, by rw [Nat.pow_succ, ← HX.out]; omega, by go_num, _, _, _, _, S6.out⟩
          case measure => simp [intOf] <;> omega
    · have he7 : e = 7 := pow_gt e he (by rw [← hx]; exact hle)
      have hle' : ¬ ((x : Int) ≤ 80) := by omega
      clear hx
      go_wp2_with fail
      go_end0
      subst he7
      exact ST2.out.fin
end Go.Proofs.YtkkkfaifkmmhpaaGreatDoor
