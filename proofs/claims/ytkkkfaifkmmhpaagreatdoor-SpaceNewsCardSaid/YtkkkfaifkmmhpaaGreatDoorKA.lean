/- keep: hold. -/
import Derived.Test.YtkkkfaifkmmhpaaGreatDoorZ
namespace Go.Proofs.YtkkkfaifkmmhpaaGreatDoor
open Go.RowKit
set_option maxRecDepth 100000

theorem Row.at {w : World} {te : TypeId} {sz : Nat} {el : Nat → Value} {v : Value} {len : Nat} (h : Row w te sz el v len) (i : Nat) (hi : i < len) : ∃ g c, v = .slice (some ⟨g, 0, none⟩) len c ∧ ∀ t, t < len * sz → w.cell? ⟨g, t, none⟩ = some (el t) := by
  rcases h with ⟨_, rfl⟩ | ⟨g, cap, cur, rfl, hg, h1, h2, h3, h4⟩
  · omega
  · exact ⟨g, cap, rfl, fun t ht => by rw [World.cell?, hg]; exact h4 t ht⟩
theorem Row.le {w : World} {te : TypeId} {sz : Nat} {el : Nat → Value} {v : Value} {len : Nat} (h : Row w te sz el v len) : len ≤ maxLen := by
  rcases h with ⟨_, rfl⟩ | ⟨g, cap, cur, rfl, hg, h1, h2, h3, h4⟩
  · omega
  · omega

/-- The i-th list and its sign. -/
theorem FullSt.at {q : Kind3} (hq : q.Ok) {w : World} {n fc sc : Nat} {fa sa : Option Addr} {own : Nat → Prop} (h : FullSt q w n (.slice fa n fc) (.slice sa n sc) own) (i : Nat) (hi : i < n) :
    ∃ fg sg va l vc m, fa = some ⟨fg, 0, none⟩ ∧ sa = some ⟨sg, 0, none⟩ ∧ w.cell? ⟨fg, i, none⟩ = some (.slice va l vc) ∧ w.cell? ⟨sg, i, none⟩ = some (.int .i64 m) ∧ Row w q.te q.sz (q.el m) (.slice va l vc) l := by
  obtain ⟨F, L, M, f, s, l, _⟩ := h
  obtain ⟨fg, c1, e1, h1⟩ := f.at i hi
  obtain ⟨sg, c2, e2, h2⟩ := s.at i hi
  obtain ⟨va, vc, e⟩ := (l i hi).form
  simp at e1 e2
  exact ⟨fg, sg, va, L i, vc, M i, e1.1, e2.1, by rw [h1 i (by omega), e], h2 i (by omega), e ▸ l i hi⟩

def HoldPost (w : World) (e : Ending) (w' : World) : Prop := e = .returned (.bool true) ∧ Only [] w w'

/-- What keep.hold asks. -/
structure HoldIn (w : World) (p : Nat) (C : Array Value) (nw np nb : Nat) : Prop where
  kp : Blk w p C 45
  fw : ∃ fa fc sa sc own, C[8]? = some (.slice fa nw fc) ∧ C[11]? = some (.slice sa nw sc) ∧ FullSt qW w nw (.slice fa nw fc) (.slice sa nw sc) own
  fp : ∃ fa fc sa sc own, C[9]? = some (.slice fa np fc) ∧ C[12]? = some (.slice sa np sc) ∧ FullSt qP w np (.slice fa np fc) (.slice sa np sc) own
  fb : ∃ fa fc sa sc own, C[10]? = some (.slice fa nb fc) ∧ C[13]? = some (.slice sa nb sc) ∧ FullSt qB w nb (.slice fa nb fc) (.slice sa nb sc) own

theorem FullSt.only {q : Kind3} {w w' : World} {n : Nat} {fv sv : Value} {own : Nat → Prop} (h : FullSt q w n fv sv own) (ho : Only [] w w') : FullSt q w' n fv sv own := by
  obtain ⟨F, L, M, f, s, l, fo, so, lo, ls, one⟩ := h
  exact ⟨F, L, M, f.only ho (by simp), s.only ho (by simp), fun i hi => (l i hi).only ho (by simp), fo, so, lo, ls, one⟩

set_option maxHeartbeats 4000000 in
theorem hold1 (p : Nat) (C : Array Value) (nw np nb : Nat) (w : World) (h : HoldIn w p C nw np nb) (b1 : nw ≤ 1000) (b2 : np ≤ 1000) (b3 : nb ≤ 1000) : Calls Tryz.prog 81 #[.pointer (some ⟨p, 2, none⟩)] w (HoldPost w) := by
  obtain ⟨fa1, fc1, sa1, sc1, own1, a8, a11, fs1⟩ := h.fw
  obtain ⟨fa2, fc2, sa2, sc2, own2, a9, a12, fs2⟩ := h.fp
  obtain ⟨fa3, fc3, sa3, sc3, own3, a10, a13, fs3⟩ := h.fb
  have KP := Lib.hid h.kp
  have A8 := Lib.hid a8
  have A9 := Lib.hid a9
  have A10 := Lib.hid a10
  have A11 := Lib.hid a11
  have A12 := Lib.hid a12
  have A13 := Lib.hid a13
  have FS1 := Lib.hid fs1
  have FS2 := Lib.hid fs2
  have FS3 := Lib.hid fs3
  clear h a8 a9 a10 a11 a12 a13 fs1 fs2 fs3
  go_enter Tryz.func81, Tryz.ntmps81
  go_wp2_with fail
  go_loopw [3] (fun c wr => ∃ k : Nat, k ≤ nw ∧ c = .int .i64 (k : Int) ∧ Only [] w wr) (fun c _ => nw - (intOf c).toNat)
  case atStart => exact ⟨0, by omega, rfl, Only.refl _ _⟩
  case round =>
    obtain ⟨k, hk, rfl, ho⟩ := hrel
    have e1 : wr.cell? ⟨p, 8, none⟩ = some (.slice fa1 nw fc1) := by rw [(KP.out.only ho (by simp)).cell]; exact A8.out
    have e2 : wr.cell? ⟨p, 11, none⟩ = some (.slice sa1 nw sc1) := by rw [(KP.out.only ho (by simp)).cell]; exact A11.out
    have fs := FS1.out.only ho
    have FS := Lib.hid fs
    have OE1 := Lib.hid ho
    clear ho fs
    by_cases hlt : k < nw
    · have hlt' : (k : Int) < (nw : Int) := by omega
      obtain ⟨fg, sg, va, l, vc, m, hfa, hsa, c1, c2, hr⟩ := FS.out.at qWok k hlt
      subst hfa
      subst hsa
      have hll := hr.le
      simp only [maxLen] at hll
      have C1 := Lib.hid c1
      have C2 := Lib.hid c2
      have E1 := Lib.hid e1
      have E2 := Lib.hid e2
      have HR := Lib.hid hr
      clear c1 c2 hr
      go_wp2_with fail
      go_loopw [4] (fun c wr2 => ∃ j : Nat, j ≤ l ∧ c = .int .i64 (j : Int) ∧ Only [] wr wr2) (fun c _ => l - (intOf c).toNat)
      case atStart => exact ⟨0, by omega, rfl, Only.refl _ _⟩
      case round =>
        obtain ⟨j, hj, rfl, ho2⟩ := hrel
        have e1 := ho2.cell E1.out (by simp)
        have e2 := ho2.cell E2.out (by simp)
        have c1 := ho2.cell C1.out (by simp)
        have c2 := ho2.cell C2.out (by simp)
        by_cases hlt2 : j < l
        · have hlt2' : (j : Int) < (l : Int) := by omega
          obtain ⟨lg, lc, hva, hcl⟩ := (HR.out.only ho2 (by simp)).at j hlt2
          simp at hva
          obtain ⟨rfl, rfl⟩ := hva
          have c3 := hcl j (by show _ < l * 1; omega)
          have c4 : wr.cell? ⟨lg, j, none⟩ = some (.int .i64 m) := by rw [c3]
          have O2 := Lib.hid ho2
          clear ho2 c3 hcl
          go_wp2_with fail
          go_quiet (fail)
          go_wp2_with fail
          go_roundw
          case rel => exact ⟨j + 1, by omega, by go_num, O2.out.drewN _⟩
          case measure => simp [intOf] <;> omega
        · obtain rfl : j = l := by omega
          have O2 := Lib.hid ho2
          clear ho2
          go_wp2_with fail
          go_roundw
          case rel => exact ⟨k + 1, by omega, by go_num, OE1.out.trans O2.out⟩
          case measure => simp [intOf] <;> omega
    · obtain rfl : k = nw := by omega
      go_wp2_with fail
      clear e1 e2 FS
      go_loopw [5] (fun c wr => ∃ k : Nat, k ≤ np ∧ c = .int .i64 (k : Int) ∧ Only [] w wr) (fun c _ => np - (intOf c).toNat)
      case atStart => exact ⟨0, by omega, rfl, OE1.out⟩
      case round =>
        obtain ⟨k, hk, rfl, ho⟩ := hrel
        have e1 : wr.cell? ⟨p, 9, none⟩ = some (.slice fa2 np fc2) := by rw [(KP.out.only ho (by simp)).cell]; exact A9.out
        have e2 : wr.cell? ⟨p, 12, none⟩ = some (.slice sa2 np sc2) := by rw [(KP.out.only ho (by simp)).cell]; exact A12.out
        have fs := FS2.out.only ho
        have FS := Lib.hid fs
        have OE2 := Lib.hid ho
        clear ho fs
        by_cases hlt : k < np
        · have hlt' : (k : Int) < (np : Int) := by omega
          obtain ⟨fg, sg, va, l, vc, m, hfa, hsa, c1, c2, hr⟩ := FS.out.at qPok k hlt
          subst hfa
          subst hsa
          have hll := hr.le
          simp only [maxLen] at hll
          have C1 := Lib.hid c1
          have C2 := Lib.hid c2
          have E1 := Lib.hid e1
          have E2 := Lib.hid e2
          have HR := Lib.hid hr
          clear c1 c2 hr
          go_wp2_with fail
          go_loopw [6] (fun c wr2 => ∃ j : Nat, j ≤ l ∧ c = .int .i64 (j : Int) ∧ Only [] wr wr2) (fun c _ => l - (intOf c).toNat)
          case atStart => exact ⟨0, by omega, rfl, Only.refl _ _⟩
          case round =>
            obtain ⟨j, hj, rfl, ho2⟩ := hrel
            have e1 := ho2.cell E1.out (by simp)
            have e2 := ho2.cell E2.out (by simp)
            have c1 := ho2.cell C1.out (by simp)
            have c2 := ho2.cell C2.out (by simp)
            by_cases hlt2 : j < l
            · have hlt2' : (j : Int) < (l : Int) := by omega
              obtain ⟨lg, lc, hva, hcl⟩ := (HR.out.only ho2 (by simp)).at j hlt2
              simp at hva
              obtain ⟨rfl, rfl⟩ := hva
              have c3 := hcl (j * 3) (by show _ < l * 3; omega)
              have c4 : wr.cell? ⟨lg, j * 3, none⟩ = some (.int .i64 m) := by rw [c3]; show some (Value.int .i64 (if (j * 3) % 3 = 0 then m else 0)) = _; rw [if_pos (by omega)]
              have O2 := Lib.hid ho2
              clear ho2 c3 hcl
              go_wp2_with fail
              go_quiet (fail)
              go_wp2_with fail
              go_roundw
              case rel => exact ⟨j + 1, by omega, by go_num, O2.out.drewN _⟩
              case measure => simp [intOf] <;> omega
            · obtain rfl : j = l := by omega
              have O2 := Lib.hid ho2
              clear ho2
              go_wp2_with fail
              go_roundw
              case rel => exact ⟨k + 1, by omega, by go_num, OE2.out.trans O2.out⟩
              case measure => simp [intOf] <;> omega
        · obtain rfl : k = np := by omega
          go_wp2_with fail
          clear e1 e2 FS
          go_loopw [7] (fun c wr => ∃ k : Nat, k ≤ nb ∧ c = .int .i64 (k : Int) ∧ Only [] w wr) (fun c _ => nb - (intOf c).toNat)
          case atStart => exact ⟨0, by omega, rfl, OE2.out⟩
          case round =>
            obtain ⟨k, hk, rfl, ho⟩ := hrel
            have e1 : wr.cell? ⟨p, 10, none⟩ = some (.slice fa3 nb fc3) := by rw [(KP.out.only ho (by simp)).cell]; exact A10.out
            have e2 : wr.cell? ⟨p, 13, none⟩ = some (.slice sa3 nb sc3) := by rw [(KP.out.only ho (by simp)).cell]; exact A13.out
            have fs := FS3.out.only ho
            have FS := Lib.hid fs
            have OE3 := Lib.hid ho
            clear ho fs
            by_cases hlt : k < nb
            · have hlt' : (k : Int) < (nb : Int) := by omega
              obtain ⟨fg, sg, va, l, vc, m, hfa, hsa, c1, c2, hr⟩ := FS.out.at qBok k hlt
              subst hfa
              subst hsa
              have hll := hr.le
              simp only [maxLen] at hll
              have C1 := Lib.hid c1
              have C2 := Lib.hid c2
              have E1 := Lib.hid e1
              have E2 := Lib.hid e2
              have HR := Lib.hid hr
              clear c1 c2 hr
              go_wp2_with fail
              go_loopw [8] (fun c wr2 => ∃ j : Nat, j ≤ l ∧ c = .int .i64 (j : Int) ∧ Only [] wr wr2) (fun c _ => l - (intOf c).toNat)
              case atStart => exact ⟨0, by omega, rfl, Only.refl _ _⟩
              case round =>
                obtain ⟨j, hj, rfl, ho2⟩ := hrel
                have e1 := ho2.cell E1.out (by simp)
                have e2 := ho2.cell E2.out (by simp)
                have c1 := ho2.cell C1.out (by simp)
                have c2 := ho2.cell C2.out (by simp)
                by_cases hlt2 : j < l
                · have hlt2' : (j : Int) < (l : Int) := by omega
                  obtain ⟨lg, lc, hva, hcl⟩ := (HR.out.only ho2 (by simp)).at j hlt2
                  simp at hva
                  obtain ⟨rfl, rfl⟩ := hva
                  have c3 := hcl (j * 5 + 1) (by show _ < l * 5; omega)
                  have c4 : wr.cell? ⟨lg, j * 5 + 1, none⟩ = some (.int .i64 m) := by rw [c3]; show some (Value.int .i64 (if (j * 5 + 1) % 5 = 1 then m else 0)) = _; rw [if_pos (by omega)]
                  have O2 := Lib.hid ho2
                  clear ho2 c3 hcl
                  go_wp2_with fail
                  go_quiet (fail)
                  go_wp2_with fail
                  go_roundw
                  case rel => exact ⟨j + 1, by omega, by go_num, O2.out.drewN _⟩
                  case measure => simp [intOf] <;> omega
                · obtain rfl : j = l := by omega
                  have O2 := Lib.hid ho2
                  clear ho2
                  go_wp2_with fail
                  go_roundw
                  case rel => exact ⟨k + 1, by omega, by go_num, OE3.out.trans O2.out⟩
                  case measure => simp [intOf] <;> omega
            · obtain rfl : k = nb := by omega
              go_wp2_with fail
              clear e1 e2 FS
              go_ret
              exact ⟨rfl, OE3.out⟩
end Go.Proofs.YtkkkfaifkmmhpaaGreatDoor
