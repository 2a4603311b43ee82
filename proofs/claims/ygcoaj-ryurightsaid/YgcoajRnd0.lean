/-
  WALKS: exact.shift, exact.log2, exact.raises, exact.floor.
-/
import Derived.Test.YgcoajNatX
set_option linter.unusedVariables false
set_option linter.unusedSimpArgs false
namespace Go.Proofs.Ygcoaj
open Go.RowKit

set_option maxRecDepth 100000 in
set_option maxHeartbeats 1000000 in
theorem shift_ok (B n d : Nat) (a1 a2 : Option Addr) (k1 c1 k2 c2 : Nat) (K : Int) (w : World) (h1 : NatIs B w (.slice a1 k1 c1) n) (h2 : NatIs B w (.slice a2 k2 c2) d) (hB : B ≤ 100000000) (hK0 : -65535 ≤ K) (hK1 : K ≤ 65535) :
    Calls Oajg.prog 66 #[.slice a1 k1 c1, .slice a2 k2 c2, .int .i64 K] w fun e w' => ∃ b1 l1 e1 b2 l2 e2, e = .returned (.tuple #[.slice b1 l1 e1, .slice b2 l2 e2]) ∧ NatIs (B + 2048) w' (.slice b1 l1 e1) (n * 2 ^ K.toNat) ∧ NatIs (B + 2048) w' (.slice b2 l2 e2) (d * 2 ^ (-K).toNat) ∧ Below w.heap.size w w' := by
  by_cases hk : K < 0
  · have HS : Hid (Calls Oajg.prog 78 #[.slice a2 k2 c2, .int .u16 (-K)] w fun e w' => ∃ ad k c, e = .returned (.slice ad k c) ∧ NatIs (B + 2048) w' (.slice ad k c) (d * 2 ^ (-K).toNat) ∧ Below w.heap.size w w') := shaped (shl_any B _ d (-K) w h2 (by omega) (by omega) (by omega))
    have HN : Hid (NatIs B w (.slice a1 k1 c1) n) := h1
    clear h1 h2
    go_enter Oajg.func66, Oajg.ntmps66
    go_wp2_with fail
    refine Calls.mono HS.out ?_
    rintro _ w1 ⟨ad, k, c, rfl, hN, hb⟩
    have HX : Hid (NatIs (B + 2048) w1 (.slice a1 k1 c1) (n * 2 ^ K.toNat)) := by
      show NatIs _ _ _ _
      rw [show K.toNat = 0 by omega, Nat.pow_zero, Nat.mul_one]; exact (HN.out.kept hb).mono (by omega)
    have HY : Hid (NatIs (B + 2048) w1 (.slice ad k c) (d * 2 ^ (-K).toNat)) := hN
    have HB : Hid (Below w.heap.size w w1) := hb
    clear hN hb
    go_wp2_with fail
    go_ret2
    exact ⟨_, _, _, _, _, _, rfl, HX.out, HY.out, HB.out⟩
  · have HS : Hid (Calls Oajg.prog 78 #[.slice a1 k1 c1, .int .u16 K] w fun e w' => ∃ ad k c, e = .returned (.slice ad k c) ∧ NatIs (B + 2048) w' (.slice ad k c) (n * 2 ^ K.toNat) ∧ Below w.heap.size w w') := shaped (shl_any B _ n K w h1 (by omega) (by omega) (by omega))
    have HN : Hid (NatIs B w (.slice a2 k2 c2) d) := h2
    clear h1 h2
    go_enter Oajg.func66, Oajg.ntmps66
    go_wp2_with fail
    refine Calls.mono HS.out ?_
    rintro _ w1 ⟨ad, k, c, rfl, hN, hb⟩
    have HX : Hid (NatIs (B + 2048) w1 (.slice a2 k2 c2) (d * 2 ^ (-K).toNat)) := by
      show NatIs _ _ _ _
      rw [show (-K).toNat = 0 by omega, Nat.pow_zero, Nat.mul_one]; exact (HN.out.kept hb).mono (by omega)
    have HY : Hid (NatIs (B + 2048) w1 (.slice ad k c) (n * 2 ^ K.toNat)) := hN
    have HB : Hid (Below w.heap.size w w1) := hb
    clear hN hb
    go_wp2_with fail
    go_ret2
    exact ⟨_, _, _, _, _, _, rfl, HY.out, HX.out, HB.out⟩

/-- the difference of the bit lengths -/
def lgD (n d : Nat) : Int := (bitLen n : Int) - (bitLen d : Int)
def lg2 (n d : Nat) (lo hi : Int) : Int :=
  if hi + 1 < lgD n d then hi + 1
  else if lgD n d < lo then lo - 1
  else if n * 2 ^ (-lgD n d).toNat < d * 2 ^ (lgD n d).toNat then lgD n d - 1 else lgD n d

theorem NatIs.bits {B : Nat} {w : World} {v : Value} {n : Nat} (h : NatIs B w v n) : bitLen n ≤ 32 * B := by
  obtain ⟨l, h1, h2, h3, h4, h5⟩ := h
  have h6 := valL_lt l h2
  rw [h1] at h6
  refine bitLen_le_of_lt ?_
  have h7 : (4294967296 : Nat) ^ l.length = 2 ^ (32 * l.length) := by rw [Nat.pow_mul]
  have h8 : 2 ^ (32 * l.length) ≤ 2 ^ (32 * B) := Nat.pow_le_pow_right (by decide) (by omega)
  omega

set_option maxRecDepth 100000 in
set_option maxHeartbeats 1000000 in
theorem log2_ok (B n d : Nat) (a1 a2 : Option Addr) (k1 c1 k2 c2 : Nat) (lo hi : Int) (w : World) (h1 : NatIs B w (.slice a1 k1 c1) n) (h2 : NatIs B w (.slice a2 k2 c2) d) (hB : B ≤ 10000000)
    (hlo : (-60000 ≤ lo ∧ lo ≤ 60000) ∧ (-60000 ≤ hi ∧ hi ≤ 60000) ∨ (lgD n d - 1 = lo ∧ hi = lgD n d ∧ B ≤ 2000)) :
    Calls Oajg.prog 69 #[.slice a1 k1 c1, .slice a2 k2 c2, .int .i64 lo, .int .i64 hi] w fun e w' => e = .returned (.int .i64 (lg2 n d lo hi)) ∧ Below w.heap.size w w' := by
  have hb1 := h1.bits
  have hb2 := h2.bits
  have HL1 : Hid (Calls Oajg.prog 68 #[.slice a1 k1 c1] w fun e w' => e = .returned (.int .i64 (bitLen n : Nat)) ∧ Below w.heap.size w w') := bitLen_ok B _ n w h1 (by omega)
  have HL2 : Hid (∀ W, Below w.heap.size w W → Calls Oajg.prog 68 #[.slice a2 k2 c2] W fun e w' => e = .returned (.int .i64 (bitLen d : Nat)) ∧ Below W.heap.size W w') := fun W hW => bitLen_ok B _ d W (h2.kept hW) (by omega)
  have HH : Hid (NatIs B w (.slice a1 k1 c1) n ∧ NatIs B w (.slice a2 k2 c2) d) := ⟨h1, h2⟩
  obtain ⟨D, hD⟩ : ∃ D, D = lgD n d := ⟨_, rfl⟩
  have kD : ((bitLen n : Nat) : Int) - ((bitLen d : Nat) : Int) = D := by rw [hD]; rfl
  have hDb : -320000000 ≤ D ∧ D ≤ 320000000 := by omega
  have HRES : Hid (lg2 n d lo hi = if hi + 1 < D then hi + 1 else if D < lo then lo - 1 else if n * 2 ^ (-D).toNat < d * 2 ^ D.toNat then D - 1 else D) := by show _ = _; rw [hD]; rfl
  rw [← hD] at hlo
  have hDr : D < lo ∨ hi + 1 < D ∨ (-65535 ≤ D ∧ D ≤ 65535) := by
    rcases hlo with h | h <;> omega
  have hlo2 : -400000000 ≤ lo ∧ lo ≤ 400000000 ∧ -400000000 ≤ hi ∧ hi ≤ 400000000 := by
    rcases hlo with h | h <;> omega
  obtain ⟨hlA, hlB, hlC, hlE⟩ := hlo2
  obtain ⟨hDA, hDB⟩ := hDb
  generalize lg2 n d lo hi = R at *
  clear h1 h2 hD hlo
  generalize bitLen n = L1 at *
  generalize bitLen d = L2 at *
  go_enter Oajg.func69, Oajg.ntmps69
  go_wp2_with fail
  refine Calls.mono HL1.out ?_
  rintro _ w1 ⟨rfl, hb⟩
  have HB1 : Hid (Below w.heap.size w w1) := hb
  clear hb HL1
  go_wp2_with fail
  refine Calls.mono (HL2.out _ HB1.out) ?_
  rintro _ w2 ⟨rfl, hb⟩
  have HB2 : Hid (Below w.heap.size w w2) := below_then HB1.out hb
  clear hb HL2 HB1
  by_cases hc1 : hi + 1 < D
  · have HR : Hid (R = hi + 1) := by have := HRES.out; rw [if_pos hc1] at this; exact this
    clear HRES hDr
    go_wp2_with fail
    go_ret
    exact ⟨ret_i64 HR.out.symm, HB2.out⟩
  · have hc1' : decide (hi + 1 < D) = false := by simpa using hc1
    by_cases hc2 : D < lo
    · have HR : Hid (R = lo - 1) := by have := HRES.out; rw [if_neg hc1, if_pos hc2] at this; exact this
      clear HRES hDr hc1
      go_wp2_with fail
      go_ret
      exact ⟨ret_i64 HR.out.symm, HB2.out⟩
    · have hc2' : decide (D < lo) = false := by simpa using hc2
      have hD2 : -65535 ≤ D ∧ D ≤ 65535 := by
        rcases hDr with h | h | h
        · exact absurd h hc2
        · exact absurd h hc1
        · exact h
      obtain ⟨hD3, hD4⟩ := hD2
      have HS : Hid (Calls Oajg.prog 66 #[.slice a1 k1 c1, .slice a2 k2 c2, .int .i64 (-D)] w2 fun e w' => ∃ b1 l1 e1 b2 l2 e2, e = .returned (.tuple #[.slice b1 l1 e1, .slice b2 l2 e2]) ∧ NatIs (B + 2048) w' (.slice b1 l1 e1) (n * 2 ^ (-D).toNat) ∧ NatIs (B + 2048) w' (.slice b2 l2 e2) (d * 2 ^ D.toNat) ∧ Below w2.heap.size w2 w') := by
        have := shift_ok B n d a1 a2 k1 c1 k2 c2 (-D) w2 (HH.out.1.kept HB2.out) (HH.out.2.kept HB2.out) (by omega) (by omega) (by omega)
        rw [Int.neg_neg] at this
        exact this
      have HRES2 : Hid (R = if n * 2 ^ (-D).toNat < d * 2 ^ D.toNat then D - 1 else D) := by have := HRES.out; rw [if_neg hc1, if_neg hc2] at this; exact this
      clear HRES hDr hc1 hc2
      go_wp2_with fail
      refine Calls.mono HS.out ?_
      rintro _ w3 ⟨b1, l1, e1, b2, l2, e2, rfl, hN1, hN2, hb⟩
      have HB3 : Hid (Below w.heap.size w w3) := below_then HB2.out hb
      have HC : Hid (Calls Oajg.prog 82 #[.slice b1 l1 e1, .slice b2 l2 e2] w3 fun e w' => e = .returned (.int .i8 (cmpZ (n * 2 ^ (-D).toNat) (d * 2 ^ D.toNat))) ∧ Below w3.heap.size w3 w') := cmp_any (B + 2048) (B + 2048) _ _ _ _ w3 hN1 hN2 (by omega) (by omega)
      clear hb hN1 hN2 HS HB2
      by_cases hlt : n * 2 ^ (-D).toNat < d * 2 ^ D.toNat
      · rw [cmpZ_lt hlt] at HC
        have HR : Hid (R = D - 1) := by have := HRES2.out; rw [if_pos hlt] at this; exact this
        clear hlt HRES2
        go_wp2_with fail
        refine Calls.mono HC.out ?_
        rintro _ w4 ⟨rfl, hb⟩
        have HB4 : Hid (Below w.heap.size w w4) := below_then HB3.out hb
        clear hb HC
        go_wp2_with fail
        go_ret
        exact ⟨ret_i64 HR.out.symm, HB4.out⟩
      · have hz : 0 ≤ cmpZ (n * 2 ^ (-D).toNat) (d * 2 ^ D.toNat) := by unfold cmpZ; rw [if_neg hlt]; split <;> decide
        have HR : Hid (R = D) := by have := HRES2.out; rw [if_neg hlt] at this; exact this
        clear hlt HRES2
        generalize cmpZ (n * 2 ^ (-D).toNat) (d * 2 ^ D.toNat) = Z at *
        have hz' : decide (Z < 0) = false := by rw [decide_eq_false_iff_not]; omega
        go_wp2_with fail
        refine Calls.mono HC.out ?_
        rintro _ w4 ⟨rfl, hb⟩
        have HB4 : Hid (Below w.heap.size w w4) := below_then HB3.out hb
        clear hb HC
        go_wp2_with fail
        go_ret
        exact ⟨ret_i64 HR.out.symm, HB4.out⟩

/-! ### raises -/
def rdX (mo : Nat) (neg odd : Bool) (half : Int) (sm : Bool) : Bool :=
  if mo = 1 then decide (0 ≤ half) else if mo = 2 then false else if mo = 3 then sm && !neg else if mo = 4 then sm && neg else decide (0 < half) || (decide (half = 0) && odd)

set_option maxRecDepth 100000 in
set_option maxHeartbeats 1000000 in
theorem raisesX_ok (mo : Nat) (neg odd : Bool) (half : Int) (sm : Bool) (hh : half = -1 ∨ half = 0 ∨ half = 1) (w : World) :
    Calls Oajg.prog 171 #[.int .u8 (mo : Int), .bool neg, .bool odd, .agg #[.int .i8 half, .bool sm]] w fun e w' => e = .returned (.bool (rdX mo neg odd half sm)) ∧ Below w.heap.size w w' := by
  have HB : Hid (Below w.heap.size w (w.alloc (.cells #[.int .i8 half, .bool sm] 152))) := (Below.refl _ _).alloc (Nat.le_refl _) _
  by_cases h1 : mo = 1
  · subst h1
    rcases hh with rfl | rfl | rfl
    all_goals
      go_enter Oajg.func171, Oajg.ntmps171
      go_wp2_with fail
      go_ret
      exact ⟨rfl, HB.out⟩
  by_cases h2 : mo = 2
  · subst h2
    go_enter Oajg.func171, Oajg.ntmps171
    go_wp2_with fail
    go_ret
    exact ⟨rfl, HB.out⟩
  by_cases h3 : mo = 3
  · subst h3
    cases sm <;> cases neg
    all_goals
      go_enter Oajg.func171, Oajg.ntmps171
      go_wp2_with fail
      go_ret
      exact ⟨rfl, HB.out⟩
  by_cases h4 : mo = 4
  · subst h4
    cases sm <;> cases neg
    all_goals
      go_enter Oajg.func171, Oajg.ntmps171
      go_wp2_with fail
      go_ret
      exact ⟨rfl, HB.out⟩
  have j1 : ((mo : Int) == 1) = false := by simp; omega
  have j2 : ((mo : Int) == 2) = false := by simp; omega
  have j3 : ((mo : Int) == 3) = false := by simp; omega
  have j4 : ((mo : Int) == 4) = false := by simp; omega
  have HRES : Hid (rdX mo neg odd half sm = (decide (0 < half) || (decide (half = 0) && odd))) := by show _ = _; unfold rdX; rw [if_neg h1, if_neg h2, if_neg h3, if_neg h4]
  generalize rdX mo neg odd half sm = R at *
  clear h1 h2 h3 h4
  rcases hh with rfl | rfl | rfl
  all_goals
    cases odd
    all_goals
      go_enter Oajg.func171, Oajg.ntmps171
      go_wp2_with fail
      go_ret
      exact ⟨ret_bool (by rw [HRES.out]; rfl), HB.out⟩

theorem NatIs.none_eq {B : Nat} {w : World} {ad : Option Addr} {k c n : Nat} (h : NatIs B w (.slice ad k c) n) : ad.isNone = (n == 0) := by
  by_cases hn : n = 0
  · subst hn
    have := h.of_zero
    cases this; rfl
  · obtain ⟨l, b, cap, _, _, _, _, _, e, _⟩ := h.of_pos hn
    cases e
    simp [hn]

end Go.Proofs.Ygcoaj
