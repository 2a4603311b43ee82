/-
  PLAIN: the model's floats (Ieee) against the plain rounding.
-/
import Derived.Test.YgcoajBn0
import GoSem.Core.Float
set_option linter.unusedVariables false
set_option linter.unusedSimpArgs false
namespace Go.Proofs.Ygcoaj
open Go.RowKit

theorem log2_bits {x : Nat} (h : x ≠ 0) : bitLen x = x.log2 + 1 := bitLen_uniq (Nat.log2_self_le h) Nat.lt_log2_self
theorem cut_rz (neg : Bool) (n drop : Nat) : Ieee.Toward.cut .even neg n drop = rzN 0 neg n (2 ^ drop) := by
  have core : ∀ g : Nat, n / g + ((decide (g < 2 * (n % g)) || (g == 2 * (n % g) && n / g % 2 == 1)) : Bool).toNat = rzN 0 neg n g := by
    intro g
    unfold rzN rdX
    simp only [show ¬ (0 : Nat) = 1 by decide, show ¬ (0 : Nat) = 2 by decide, show ¬ (0 : Nat) = 3 by decide, show ¬ (0 : Nat) = 4 by decide, if_false]
    congr 1
    unfold hfX
    rcases Nat.lt_trichotomy (n % g * 2) g with hc | hc | hc
    · rw [cmpZ_lt hc]
      have h1 : decide (g < 2 * (n % g)) = false := by simp; omega
      have h2 : (g == 2 * (n % g)) = false := by simp; omega
      rw [h1, h2]; simp
    · rw [cmpZ_eq hc]
      have h1 : decide (g < 2 * (n % g)) = false := by simp; omega
      have h2 : (g == 2 * (n % g)) = true := by simp; omega
      rw [h1, h2]
      cases (n / g % 2 == 1) <;> simp
    · rw [cmpZ_gt hc]
      have h1 : decide (g < 2 * (n % g)) = true := by simp; omega
      rw [h1]; simp
  unfold Ieee.Toward.cut
  simp only [Nat.one_shiftLeft]
  rw [core]
  by_cases hd : drop ≤ n.log2 + 2
  · rw [Nat.min_eq_left hd]
  · rw [Nat.min_eq_right (by omega)]
    have hl : n < 2 ^ (n.log2 + 1) := Nat.lt_log2_self
    have e1 : 2 ^ (n.log2 + 2) = 2 * 2 ^ (n.log2 + 1) := by rw [Nat.pow_succ]; omega
    have e2 : 2 ^ (n.log2 + 2) ≤ 2 ^ drop := Nat.pow_le_pow_right (by decide) (by omega)
    have z : ∀ g : Nat, 2 * n < g → rzN 0 neg n g = 0 := by
      intro g hg
      unfold rzN rdX hfX
      simp only [show ¬ (0 : Nat) = 1 by decide, show ¬ (0 : Nat) = 2 by decide, show ¬ (0 : Nat) = 3 by decide, show ¬ (0 : Nat) = 4 by decide, if_false]
      rw [Nat.div_eq_of_lt (by omega), Nat.mod_eq_of_lt (by omega), cmpZ_lt (by omega)]
      simp
    rw [z _ (by omega), z _ (by omega)]

theorem ov0 (E M : Nat) (neg : Bool) : ovN E M 0 neg = sgnd E M neg (infN E M) := by unfold ovN ovB; simp
theorem word_sgnd (E M : Nat) (neg : Bool) (r : Nat) : Ieee.Format.word ⟨E, M⟩ neg r = sgnd E M neg r := by
  unfold Ieee.Format.word sgnd Ieee.Format.signWeight
  split
  · exact Nat.add_comm _ _
  · rfl
theorem least_eq {E M : Nat} (h : 2 ≤ E) : Ieee.Format.leastPlace ⟨E, M⟩ = 1 - (biasN E : Int) - (M : Int) := by
  unfold Ieee.Format.leastPlace biasN
  have := pp (E - 1)
  have e : ((2 ^ (E - 1) - 1 : Nat) : Int) = (2 : Int) ^ (E - 1) - 1 := by
    have : ((2 ^ (E - 1) : Nat) : Int) = (2 : Int) ^ (E - 1) := by push_cast; rfl
    omega
  simp only [e]
  omega

/-- the nearest word is the rounding to nearest, ties to even -/
theorem near_rf {E M : Nat} (h : FOk E M) (neg : Bool) (mag : Nat) (place : Int) : Ieee.Format.nearest ⟨E, M⟩ neg mag place = rfN E M 0 neg (mag * 2 ^ place.toNat) (2 ^ (-place).toNat) := by
  have hM := h.m52
  have hb1 := biasN_pos h.e2
  by_cases h0 : mag = 0
  · subst h0
    unfold Ieee.Format.nearest rfN
    rw [if_pos rfl, if_pos (Nat.zero_mul _), word_sgnd]
  · have hL := log2_bits h0
    have hlt := bitLen_lt mag
    have hle := bitLen_le h0
    have hn : mag * 2 ^ place.toNat ≠ 0 := Nat.mul_ne_zero h0 (Nat.ne_of_gt (pp _))
    have hd : 2 ^ (-place).toNat ≠ 0 := Nat.ne_of_gt (pp _)
    obtain ⟨R, hR⟩ : ∃ R : Int, R = place + (mag.log2 : Int) := ⟨_, rfl⟩
    have hv : mag * 2 ^ place.toNat * 2 ^ (-place).toNat = 2 ^ (-place).toNat * mag * 2 ^ place.toNat := by grind
    have low : ∀ a b : Nat, (b : Int) - a = R → 2 ^ (-place).toNat * 2 ^ b ≤ mag * 2 ^ place.toNat * 2 ^ a := fun a b hab => by
      refine sp_le (a := (-place).toNat) (b := bitLen mag - 1 + place.toNat) (by omega) ?_
      rw [hv, Nat.pow_add, ← Nat.mul_assoc]
      exact Nat.mul_le_mul_right _ (Nat.mul_le_mul_left _ hle)
    have up : ∀ a b : Nat, (b : Int) - a = R + 1 → mag * 2 ^ place.toNat * 2 ^ a < 2 ^ (-place).toNat * 2 ^ b := fun a b hab => by
      refine sp_lt (a := (-place).toNat) (b := bitLen mag + place.toNat) (by omega) ?_
      rw [hv, Nat.pow_add, ← Nat.mul_assoc]
      exact Nat.mul_lt_mul_of_pos_right (Nat.mul_lt_mul_of_pos_left hlt (pp _)) (pp _)
    have hrf : rfR E (mag * 2 ^ place.toNat) (2 ^ (-place).toNat) = max (1 - (biasN E : Int) - 1 - 1) (min R ((biasN E : Int) + 1)) := lg2_eq hn hd (by omega) low up
    -- what is kept
    have ratio : ∀ last : Int, Ieee.Toward.cut .even neg (mag <<< (place - last).toNat) (last - place).toNat = rfTop 0 neg (mag * 2 ^ place.toNat) (2 ^ (-place).toNat) (-last) := fun last => by
      rw [cut_rz, Nat.shiftLeft_eq]
      unfold rfTop
      refine (rz_ratio (Nat.ne_of_gt (pp _)) (Nat.mul_ne_zero hd (Nat.ne_of_gt (pp _))) ?_).1
      have e1 : mag * 2 ^ (place - last).toNat * (2 ^ (-place).toNat * 2 ^ (- -last).toNat) = mag * 2 ^ ((place - last).toNat + (-place).toNat + (- -last).toNat) := by rw [Nat.pow_add, Nat.pow_add]; grind
      have e2 : mag * 2 ^ place.toNat * 2 ^ (-last).toNat * 2 ^ (last - place).toNat = mag * 2 ^ (place.toNat + (-last).toNat + (last - place).toNat) := by rw [Nat.pow_add, Nat.pow_add]; grind
      rw [e1, e2]
      congr 2
      omega
    unfold Ieee.Format.nearest
    rw [if_neg h0]
    simp only [word_sgnd, least_eq h.e2]
    obtain ⟨last, hlast⟩ : ∃ last : Int, last = max (place + (mag.log2 : Int) - (M : Int)) (1 - (biasN E : Int) - (M : Int)) := ⟨_, rfl⟩
    rw [← hlast, ratio last]
    unfold rfN
    rw [if_neg hn]
    have hib : Ieee.Format.binade ⟨E, M⟩ = 2 ^ M := rfl
    have hir : Ieee.Format.infRung ⟨E, M⟩ = infN E M := rfl
    rw [hib, hir]
    by_cases hov : (biasN E : Int) < R
    · have e2 : rfE E (mag * 2 ^ place.toNat) (2 ^ (-place).toNat) = (biasN E : Int) + 1 := by unfold rfE; rw [hrf]; omega
      rw [e2, if_pos (by omega), ov0]
      congr 1
      refine Nat.min_eq_right ?_
      have ht : 2 ^ M ≤ rfTop 0 neg (mag * 2 ^ place.toNat) (2 ^ (-place).toNat) (-last) := top_ge (R := R) hd (by omega) low
      have hbE := bias_pow h.e2
      have hD : 2 ^ E - 2 ≤ (last - (1 - (biasN E : Int) - (M : Int))).toNat := by omega
      have h3 := Nat.mul_le_mul_right (2 ^ M) hD
      unfold infN
      have e4 : (2 ^ E - 1) * 2 ^ M = (2 ^ E - 2) * 2 ^ M + 2 ^ M := by
        rw [show 2 ^ E - 1 = (2 ^ E - 2) + 1 by omega, Nat.add_mul, Nat.one_mul]
      omega
    · have e2 : rfE E (mag * 2 ^ place.toNat) (2 ^ (-place).toNat) = last + (M : Int) := by unfold rfE; rw [hrf]; omega
      rw [e2, if_neg (by omega)]
      unfold pkN
      rw [show (M : Int) - (last + (M : Int)) = -last by omega, show last + (M : Int) - (1 - (biasN E : Int)) = last - (1 - (biasN E : Int) - (M : Int)) by omega]
      obtain ⟨x, hx⟩ : ∃ x, x = (last - (1 - (biasN E : Int) - (M : Int))).toNat * 2 ^ M + rfTop 0 neg (mag * 2 ^ place.toNat) (2 ^ (-place).toNat) (-last) := ⟨_, rfl⟩
      rw [← hx]
      by_cases hi : infN E M ≤ x
      · rw [if_pos hi, Nat.min_eq_right hi, ov0]
      · rw [if_neg hi, Nat.min_eq_left (by omega)]

/-- a finite word read -/
theorem read_fin {E M a : Nat} (h : FOk E M) (hc : upC E M a = 0 ∨ upC E M a = 1 ∨ upC E M a = 2) :
    Ieee.Format.read ⟨E, M⟩ a = .number (fNeg E M a) (if fExp E M a = 0 then fMan M a else 2 ^ M + fMan M a) (1 - (biasN E : Int) - (M : Int) + ((fExp E M a - 1 : Nat) : Int)) := by
  have hm : a % 2 ^ (E + M) = fExp E M a * 2 ^ M + fMan M a := mag_eq E M a
  have hfm : fMan M a < 2 ^ M := Nat.mod_lt _ (pp M)
  have hfe : fExp E M a < 2 ^ E := Nat.mod_lt _ (pp E)
  have hne : fExp E M a ≠ 2 ^ E - 1 := by
    intro he
    unfold upC at hc
    rw [if_pos he] at hc
    split at hc <;> omega
  unfold Ieee.Format.read Ieee.Format.signWeight Ieee.Format.binade Ieee.Format.infRung Ieee.Format.binade
  simp only [least_eq h.e2]
  have hs : (a / 2 ^ (E + M) % 2 == 1) = fNeg E M a := by
    unfold fNeg
    rw [Nat.testBit_eq_decide_div_mod_eq]
    by_cases h1 : a / 2 ^ (E + M) % 2 = 1 <;> simp [h1]
  rw [hs, hm]
  by_cases h0 : fExp E M a = 0
  · rw [h0, if_pos (by omega), if_pos rfl]
    simp
  · have hge : 2 ^ M ≤ fExp E M a * 2 ^ M := Nat.le_mul_of_pos_left _ (by omega)
    have hlt : fExp E M a * 2 ^ M + fMan M a < (2 ^ E - 1) * 2 ^ M := by
      have h1 : (fExp E M a + 1) * 2 ^ M ≤ (2 ^ E - 1) * 2 ^ M := Nat.mul_le_mul_right _ (by omega)
      rw [Nat.add_mul, Nat.one_mul] at h1
      omega
    rw [if_neg (by omega), if_pos hlt, if_neg h0]
    have e1 : (fExp E M a * 2 ^ M + fMan M a) % 2 ^ M = fMan M a := by rw [Nat.add_comm, Nat.add_mul_mod_self_right]; exact Nat.mod_eq_of_lt hfm
    have e2 : (fExp E M a * 2 ^ M + fMan M a) / 2 ^ M = fExp E M a := by rw [Nat.add_comm, Nat.add_mul_div_right _ _ (pp M), Nat.div_eq_of_lt hfm, Nat.zero_add]
    rw [e1, e2]
theorem read_inf {E M a : Nat} (h : FOk E M) (hc : upC E M a = 3) : Ieee.Format.read ⟨E, M⟩ a = .infinity (fNeg E M a) := by
  obtain ⟨h1, h2⟩ := upC_three hc
  have hm : a % 2 ^ (E + M) = fExp E M a * 2 ^ M + fMan M a := mag_eq E M a
  have hE : 4 ≤ 2 ^ E := Nat.pow_le_pow_right (n := 2) (i := 2) (by decide) h.e2
  unfold Ieee.Format.read Ieee.Format.signWeight Ieee.Format.binade Ieee.Format.infRung Ieee.Format.binade
  have hs : (a / 2 ^ (E + M) % 2 == 1) = fNeg E M a := by
    unfold fNeg
    rw [Nat.testBit_eq_decide_div_mod_eq]
    by_cases h1 : a / 2 ^ (E + M) % 2 = 1 <;> simp [h1]
  simp only [hs, hm, h1, h2, Nat.add_zero]
  have hge : 2 ^ M ≤ (2 ^ E - 1) * 2 ^ M := Nat.le_mul_of_pos_left _ (by omega)
  rw [if_neg (by omega), if_neg (by omega)]
  simp
theorem read_nan {E M a : Nat} (h : FOk E M) (hc : upC E M a = 4) : ∃ t, Ieee.Format.read ⟨E, M⟩ a = .nan (fNeg E M a) t := by
  have hx : fExp E M a = 2 ^ E - 1 ∧ fMan M a ≠ 0 := by
    unfold upC at hc
    split at hc
    · rename_i h1
      split at hc
      · omega
      · rename_i h2; exact ⟨h1, h2⟩
    · split at hc
      · split at hc <;> omega
      · omega
  obtain ⟨h1, h2⟩ := hx
  have hm : a % 2 ^ (E + M) = fExp E M a * 2 ^ M + fMan M a := mag_eq E M a
  have hE : 4 ≤ 2 ^ E := Nat.pow_le_pow_right (n := 2) (i := 2) (by decide) h.e2
  unfold Ieee.Format.read Ieee.Format.signWeight Ieee.Format.binade Ieee.Format.infRung Ieee.Format.binade
  have hs : (a / 2 ^ (E + M) % 2 == 1) = fNeg E M a := by
    unfold fNeg
    rw [Nat.testBit_eq_decide_div_mod_eq]
    by_cases h1 : a / 2 ^ (E + M) % 2 = 1 <;> simp [h1]
  simp only [hs, hm, h1]
  have hge : 2 ^ M ≤ (2 ^ E - 1) * 2 ^ M := Nat.le_mul_of_pos_left _ (by omega)
  rw [if_neg (by omega), if_neg (by omega), if_neg (by omega)]
  exact ⟨_, rfl⟩

end Go.Proofs.Ygcoaj
