/-
  PLAIN: scalings past the range; the exponent of a value.
-/
import Derived.Test.YgcoajXsLaw
set_option linter.unusedVariables false
namespace Go.Proofs.Ygcoaj
open Go.RowKit

theorem v_low {E M a : Nat} (h : FOk E M) (ho : lbOk E M a = true) : ∀ x y : Nat, (y : Int) - x = upE E M a + (M : Int) → vDen E M a * 2 ^ y ≤ vNum E M a * 2 ^ x := fun x y hxy => by
  obtain ⟨h1, h2⟩ := upM_norm h ho
  refine sp_le (a := (-upE E M a).toNat) (b := (upE E M a).toNat + M) (by omega) ?_
  unfold vNum vDen
  rw [mulpow, Nat.mul_comm (upM E M a), Nat.mul_right_comm (2 ^ (upE E M a).toNat), Nat.mul_comm (2 ^ (-upE E M a).toNat)]
  exact Nat.mul_le_mul_left _ h1
theorem v_up {E M a : Nat} (h : FOk E M) (ho : lbOk E M a = true) : ∀ x y : Nat, (y : Int) - x = upE E M a + (M : Int) + 1 → vNum E M a * 2 ^ x < vDen E M a * 2 ^ y := fun x y hxy => by
  obtain ⟨h1, h2⟩ := upM_norm h ho
  refine sp_lt (a := (-upE E M a).toNat) (b := (upE E M a).toNat + (M + 1)) (by omega) ?_
  unfold vNum vDen
  rw [mulpow, Nat.mul_comm (upM E M a), Nat.mul_right_comm (2 ^ (upE E M a).toNat), Nat.mul_comm (2 ^ (-upE E M a).toNat)]
  exact Nat.mul_lt_mul_of_pos_left h2 (Nat.mul_pos (pp _) (pp _))
theorem v_ne {E M a : Nat} (h : FOk E M) (ho : lbOk E M a = true) : vNum E M a ≠ 0 := by
  obtain ⟨h1, h2⟩ := upM_norm h ho
  unfold vNum
  have := pp M
  exact Nat.mul_ne_zero (by omega) (Nat.ne_of_gt (pp _))

theorem trueR_unique {n d : Nat} {r : Int} (hn : n ≠ 0) (hd : d ≠ 0) (low : ∀ a b : Nat, (b : Int) - a = r → d * 2 ^ b ≤ n * 2 ^ a) (up : ∀ a b : Nat, (b : Int) - a = r + 1 → n * 2 ^ a < d * 2 ^ b) : trueR n d = r := by
  have k1 := pow_order hd low (true_up hn hd)
  have k2 := pow_order hd (true_low hn hd) up
  omega
theorem trueR_shift {E M a : Nat} (h : FOk E M) (ho : lbOk E M a = true) (K : Int) : trueR (vNum E M a * 2 ^ K.toNat) (vDen E M a * 2 ^ (-K).toNat) = upE E M a + (M : Int) + K := by
  refine trueR_unique (Nat.mul_ne_zero (v_ne h ho) (Nat.ne_of_gt (pp _))) (Nat.mul_ne_zero (vDen_ne E M a) (Nat.ne_of_gt (pp _))) (fun x y hxy => ?_) (fun x y hxy => ?_)
  · rw [← mulpow, ← mulpow]
    exact v_low h ho _ _ (by omega)
  · rw [← mulpow, ← mulpow]
    exact v_up h ho _ _ (by omega)
theorem v_exp {E M a : Nat} (h : FOk E M) (ho : lbOk E M a = true) : -2000 < upE E M a + (M : Int) ∧ upE E M a + (M : Int) < 2000 := by
  have hbi := biasN_le h.e11
  have hM := h.m52
  have hm := h.m2
  have hbE := bias_pow h.e2
  have hx : fExp E M a < 2 ^ E := Nat.mod_lt _ (pp E)
  unfold lbOk at ho
  simp only [Bool.or_eq_true, decide_eq_true_eq] at ho
  unfold upE
  rcases ho with h1 | h2
  · rw [if_pos h1]; omega
  · rw [if_neg (by omega), if_pos h2]; omega

theorem rf_over {E M mo : Nat} {neg : Bool} {n d : Nat} (h : FOk E M) (hn : n ≠ 0) (hd : d ≠ 0) (hov : (biasN E : Int) < trueR n d) : rfN E M mo neg n d = ovN E M mo neg ∧ rfF E M mo neg n d = 20 := by
  have hb1 := biasN_pos h.e2
  have hrf := rfR_true hb1 hn hd
  have e2 : rfE E n d = (biasN E : Int) + 1 := by unfold rfE; rw [hrf]; omega
  unfold rfN rfF
  rw [if_neg hn, if_neg hn, e2, if_pos (by omega), if_pos (by omega)]
  exact ⟨rfl, rfl⟩
theorem rf_under {E M mo : Nat} {neg : Bool} {n d : Nat} (h : FOk E M) (hn : n ≠ 0) (hd : d ≠ 0) (hun : trueR n d < 1 - (biasN E : Int) - (M : Int) - 2) :
    rfN E M mo neg n d = pkN E M mo neg 0 (if rdX mo neg false (-1) true then 1 else 0) true true ∧ rfF E M mo neg n d = pkF E M 0 (if rdX mo neg false (-1) true then 1 else 0) true true := by
  have hb1 := biasN_pos h.e2
  have hrf := rfR_true hb1 hn hd
  have e1 : rfR E n d = 1 - (biasN E : Int) - 1 - 1 := by rw [hrf]; omega
  have e2 : rfE E n d = 1 - (biasN E : Int) := by unfold rfE; rw [e1]; omega
  obtain ⟨K, hK⟩ : ∃ K, K = (M : Int) - (1 - (biasN E : Int)) := ⟨_, rfl⟩
  have hlt : n * 2 ^ K.toNat * 2 < d * 2 ^ (-K).toNat := by
    have h1 := true_up hn hd (K.toNat + 1 + (-(trueR n d + 1) - K - 1).toNat) (-K).toNat (by omega)
    rw [mulpow, mulpow, Nat.pow_one] at h1
    exact Nat.lt_of_le_of_lt (Nat.le_mul_of_pos_right _ (pp _)) h1
  have hn1 : n * 2 ^ K.toNat ≠ 0 := Nat.mul_ne_zero hn (Nat.ne_of_gt (pp _))
  have hq : n * 2 ^ K.toNat / (d * 2 ^ (-K).toNat) = 0 := Nat.div_eq_of_lt (by omega)
  have hr : n * 2 ^ K.toNat % (d * 2 ^ (-K).toNat) = n * 2 ^ K.toNat := Nat.mod_eq_of_lt (by omega)
  have hhf : hfX (n * 2 ^ K.toNat) (d * 2 ^ (-K).toNat) = -1 := by unfold hfX; rw [hr]; exact cmpZ_lt hlt
  have hsm : smX (n * 2 ^ K.toNat) (d * 2 ^ (-K).toNat) = true := by unfold smX; rw [hr, beq_eq_false_iff_ne.2 hn1]; rfl
  have htop : rfTop mo neg n d K = if rdX mo neg false (-1) true then 1 else 0 := by
    unfold rfTop rzN
    rw [hq, hhf, hsm, Nat.zero_add]; rfl
  have hsm2 : rfSm n d K = true := hsm
  have hti : rfTiny E M mo neg n d = true := by
    unfold rfTiny
    rw [e1, if_neg (by omega)]
    exact decide_eq_true (by omega)
  have hno : ¬ (biasN E : Int) < 1 - (biasN E : Int) := by omega
  unfold rfN rfF
  rw [if_neg hn, if_neg hn, e2, if_neg hno, if_neg hno, ← hK, htop, hsm2, hti, show ((1 : Int) - (biasN E : Int) - (1 - (biasN E : Int))).toNat = 0 by omega]
  exact ⟨rfl, rfl⟩

/-- the law's own clip -/
def sc6 (n : Int) : Int := min (max n (-6000)) 6000
theorem scale_same {E M mo a : Nat} {neg : Bool} {n : Int} (h : FOk E M) (ho : lbOk E M a = true) :
    rfN E M mo neg (scNum E M a n) (scDen E M a n) = rfN E M mo neg (vNum E M a * 2 ^ (sc6 n).toNat) (vDen E M a * 2 ^ (-sc6 n).toNat) ∧
    rfF E M mo neg (scNum E M a n) (scDen E M a n) = rfF E M mo neg (vNum E M a * 2 ^ (sc6 n).toNat) (vDen E M a * 2 ^ (-sc6 n).toNat) := by
  have hv := v_exp h ho
  have hbi := biasN_le h.e11
  have hM := h.m52
  have t5 := trueR_shift h ho (scK n)
  have t6 := trueR_shift h ho (sc6 n)
  have hn5 : scNum E M a n ≠ 0 := Nat.mul_ne_zero (v_ne h ho) (Nat.ne_of_gt (pp _))
  have hn6 : vNum E M a * 2 ^ (sc6 n).toNat ≠ 0 := Nat.mul_ne_zero (v_ne h ho) (Nat.ne_of_gt (pp _))
  have hd6 : vDen E M a * 2 ^ (-sc6 n).toNat ≠ 0 := Nat.mul_ne_zero (vDen_ne E M a) (Nat.ne_of_gt (pp _))
  have t5' : trueR (scNum E M a n) (scDen E M a n) = upE E M a + (M : Int) + scK n := t5
  by_cases h1 : 5000 < n
  · have e5 : scK n = 5000 := by unfold scK; omega
    have e6 : 5000 < sc6 n := by unfold sc6; omega
    have r5 := rf_over (mo := mo) (neg := neg) h hn5 (scDen_ne E M a n) (by rw [t5', e5]; omega)
    have r6 := rf_over (mo := mo) (neg := neg) h hn6 hd6 (by rw [t6]; omega)
    rw [r5.1, r5.2, r6.1, r6.2]
    exact ⟨rfl, rfl⟩
  · by_cases h2 : n < -5000
    · have e5 : scK n = -5000 := by unfold scK; omega
      have e6 : sc6 n < -5000 := by unfold sc6; omega
      have r5 := rf_under (mo := mo) (neg := neg) h hn5 (scDen_ne E M a n) (by rw [t5', e5]; omega)
      have r6 := rf_under (mo := mo) (neg := neg) h hn6 hd6 (by rw [t6]; omega)
      rw [r5.1, r5.2, r6.1, r6.2]
      exact ⟨rfl, rfl⟩
    · have e5 : scK n = sc6 n := by unfold scK sc6; omega
      unfold scNum scDen
      rw [e5]
      exact ⟨rfl, rfl⟩

theorem bits_zero {E M a : Nat} (h : FOk E M) (h0 : upC E M a = 0) : a % 2 ^ (E + M + 1) = sgnd E M (fNeg E M a) 0 := by
  obtain ⟨h1, h2⟩ := upC_zero h0
  have e1 : a % 2 ^ (E + M + 1) = a % 2 ^ (E + M) + 2 ^ (E + M) * (a / 2 ^ (E + M) % 2) := by rw [Nat.pow_succ, Nat.mod_mul]
  have e2 : a % 2 ^ (E + M) = a % 2 ^ M + 2 ^ M * (a / 2 ^ M % 2 ^ E) := by rw [Nat.add_comm E M, Nat.pow_add, Nat.mod_mul]
  have e3 : a % 2 ^ M = 0 := h2
  have e4 : a / 2 ^ M % 2 ^ E = 0 := h1
  rw [e1, e2, e3, e4]
  have e5 : fNeg E M a = decide (a / 2 ^ (E + M) % 2 = 1) := by unfold fNeg; rw [Nat.testBit_eq_decide_div_mod_eq]
  unfold sgnd
  rw [e5]
  rcases Nat.mod_two_eq_zero_or_one (a / 2 ^ (E + M)) with h | h
  · rw [h]; simp
  · rw [h]; simp
theorem sc_zero {E M mo a : Nat} {n : Int} (h : FOk E M) (h0 : upC E M a = 0) : scN E M mo a n = a % 2 ^ (E + M + 1) ∧ scF E M mo a n = 0 := by
  have hz : scNum E M a n = 0 := by
    unfold scNum vNum
    have : upM E M a = 0 := by unfold upM; rw [if_neg (by omega), if_neg (by omega)]
    rw [this]; simp
  unfold scN scF
  rw [if_neg (by omega), if_neg (by omega), if_neg (by omega), if_neg (by omega), hz]
  unfold rfN rfF
  rw [if_pos rfl, if_pos rfl, bits_zero h h0]
  exact ⟨rfl, rfl⟩

end Go.Proofs.Ygcoaj
