/- pair.looked at kind 20. -/
import Derived.Test.YtkkkfaifkmmhpaaGreatDoorKI
namespace Go.Proofs.YtkkkfaifkmmhpaaGreatDoor
open Go.RowKit
set_option maxRecDepth 100000

set_option maxHeartbeats 4000000 in
theorem looked20 (w0 : World) (N R rb ob n p nW nP nB : Nat) (C : Array Value) (nn : Nat → Nat) (FF : Nat → Nat → Value) (oW oP oB : Nat → Prop) (w : World) (h1 : 1 ≤ n) (h2 : n ≤ 24) (h : PSt w0 w N R rb ob n p C nn FF nW nP nB oW oP oB)
    (hm : nn 2 + nn 6 ≤ 20) (hbn : ∀ c, nn c ≤ 800) (hm' : qn7 nn 2 + qn7 nn 6 ≤ 30) (b1 : nW ≤ 800) (b2 : nP ≤ 800) (b3 : nB ≤ 800) :
    Calls Tryz.prog 6 #[.pointer (some ⟨p, 0, none⟩), opV 20] w (Looked w0 N R rb ob n p nn FF nW nP nB) := by
  obtain ⟨c0, c1⟩ := h.cells
  have H := Lib.hid h
  have HM := Lib.hid hm
  have HBN := Lib.hid hbn
  have HM' := Lib.hid hm'
  clear h hm hbn hm'
  go_enter Tryz.func6, Tryz.ntmps6
  go_wp2_with fail
  have ou : Only [] w (w.alloc (.cells #[.int .i64 0, .int .i64 20, .int .i64 0, .int .i64 0, .int .i64 0, .slice none 0 0] 29)) := (Only.refl _ _).alloc _
  generalize w.alloc (.cells _ 29) = u at ou ⊢
  have e0 := ou.cell c0 (by simp)
  have e1 := ou.cell c1 (by simp)
  have P0 := Lib.hid ((H.out.only ou).only (Only.refl [] u).drew)
  clear ou c0 c1 H
  have S0 : u.drew.cell? ⟨p, 0, none⟩ = some (.pointer (some ⟨N + 5, 0, none⟩)) ∧ u.drew.cell? ⟨p, 1, none⟩ = some (.pointer (some ⟨R + 4, 0, none⟩)) := ⟨e0, e1⟩
  go_region_held3 (fun w' => w'.cell? ⟨p, 0, none⟩ = some (.pointer (some ⟨N + 5, 0, none⟩)) ∧ w'.cell? ⟨p, 1, none⟩ = some (.pointer (some ⟨R + 4, 0, none⟩)))
    (first
      | with_reducible exact P6.out.cells
      | with_reducible exact P5.out.cells
      | with_reducible exact P4.out.cells
      | with_reducible exact P3.out.cells
      | with_reducible exact P2.out.cells
      | with_reducible exact P1.out.cells
      | with_reducible exact S0)
    (first
      | (go_at_call 31; refine (callS P0.out h1 h2).mono ?_; rintro e x1 ⟨gw, cw, gp, cp, rfl, a, -, q, -⟩; have A1 := Lib.hid a; have P1 := Lib.hid q; clear a q P0)
      | (go_at_call 32; refine (callR P0.out h1 h2).mono ?_; rintro e x1 ⟨hw, dw, hp, dp, rfl, a, -, q, -⟩; have B1 := Lib.hid a; have P1 := Lib.hid q; clear a q P0)
      | (go_at_call 31; refine (callS P1.out h1 h2).mono ?_; rintro e x2 ⟨gw, cw, gp, cp, rfl, a, -, q, o⟩; have B2 := Lib.hid (B1.out.only o); have A2 := Lib.hid a; have P2 := Lib.hid q; clear a q o P1 B1)
      | (go_at_call 32; refine (callR P1.out h1 h2).mono ?_; rintro e x2 ⟨hw, dw, hp, dp, rfl, a, -, q, o⟩; have A2 := Lib.hid (A1.out.only o); have B2 := Lib.hid a; have P2 := Lib.hid q; clear a q o P1 A1)
      | (go_at_call 30; refine (callQ P2.out h2 A2.out B2.out HM.out HBN.out).mono ?_; rintro e x3 ⟨rfl, ⟨C3, q⟩, a, b⟩; have A3 := Lib.hid a; have B3 := Lib.hid b; have P3 := Lib.hid q; clear a b q P2 A2 B2)
      | (go_at_call 31; refine (callS P3.out h1 h2).mono ?_; rintro e x4 ⟨g2w, c2w, g2p, c2p, rfl, a, s, q, o⟩; have SEP := Lib.hid (sepOf A3.out B3.out s); have A4 := Lib.hid (A3.out.only o); have B4 := Lib.hid (B3.out.only o); have X4 := Lib.hid a; have P4 := Lib.hid q; clear a s q o P3 A3 B3)
      | (go_at_call 32; refine (callR P3.out h1 h2).mono ?_; rintro e x4 ⟨h2w, d2w, h2p, d2p, rfl, a, -, q, o⟩; have A4 := Lib.hid (A3.out.only o); have B4 := Lib.hid (B3.out.only o); have Y4 := Lib.hid a; have P4 := Lib.hid q; clear a q o P3 A3 B3)
      | (go_at_call 31; refine (callS P4.out h1 h2).mono ?_; rintro e x5 ⟨g2w, c2w, g2p, c2p, rfl, a, s, q, o⟩; have Y5 := Lib.hid (Y4.out.only o); have SEP := Lib.hid (sepOf A4.out B4.out s); have A5 := Lib.hid (A4.out.only o); have B5 := Lib.hid (B4.out.only o); have X5 := Lib.hid a; have P5 := Lib.hid q; clear a s q o P4 A4 B4 Y4)
      | (go_at_call 32; refine (callR P4.out h1 h2).mono ?_; rintro e x5 ⟨h2w, d2w, h2p, d2p, rfl, a, -, q, o⟩; have X5 := Lib.hid (X4.out.only o); have A5 := Lib.hid (A4.out.only o); have B5 := Lib.hid (B4.out.only o); have Y5 := Lib.hid a; have P5 := Lib.hid q; clear a q o P4 A4 B4 X4)
      | (go_at_call 30; refine (callM P5.out h2 X5.out Y5.out HM'.out b1 b2 b3).mono ?_; rintro e x6 m; have M6 := Lib.hid m; obtain ⟨rfl, -⟩ := m; obtain ⟨C6, oW6, oP6, oB6, q6, -, -⟩ := P5.out.marked X5.out M6.out; have P6 := Lib.hid q6; clear q6))
  all_goals
    go_wp2_with fail
    go_ret
    exact lookedEnd P5.out A5.out B5.out X5.out SEP.out M6.out
end Go.Proofs.YtkkkfaifkmmhpaaGreatDoor
