/-
  PLAIN: fractions against powers of two.
-/
import Derived.Test.YgcoajRnd0
set_option linter.unusedVariables false
namespace Go.Proofs.Ygcoaj
open Go.RowKit

theorem mulpow (x a c : Nat) : x * 2 ^ (a + c) = x * 2 ^ a * 2 ^ c := by rw [Nat.pow_add, Nat.mul_assoc]
theorem pp (c : Nat) : 0 < 2 ^ c := Nat.pow_pos (by decide)

/-- n/d below 2^(b-a): only the difference counts -/
theorem sp_lt {n d a b a' b' : Nat} (h : (b : Int) - a = (b' : Int) - a') (hl : n * 2 ^ a < d * 2 ^ b) : n * 2 ^ a' < d * 2 ^ b' := by
  rcases Nat.le_total a a' with ha | ha
  · obtain ⟨c, rfl⟩ := Nat.exists_eq_add_of_le ha
    have hb : b' = b + c := by omega
    subst hb
    rw [mulpow, mulpow]
    exact Nat.mul_lt_mul_of_pos_right hl (pp c)
  · obtain ⟨c, rfl⟩ := Nat.exists_eq_add_of_le ha
    have hb : b = b' + c := by omega
    subst hb
    rw [mulpow, mulpow] at hl
    exact Nat.lt_of_mul_lt_mul_right hl
theorem sp_le {n d a b a' b' : Nat} (h : (b : Int) - a = (b' : Int) - a') (hl : d * 2 ^ b ≤ n * 2 ^ a) : d * 2 ^ b' ≤ n * 2 ^ a' := by
  by_cases hh : n * 2 ^ a' < d * 2 ^ b'
  · have := sp_lt (a' := a) (b' := b) h.symm hh
    omega
  · omega
theorem sp_eq {n d m e a b a' b' : Nat} (h : (b : Int) - a = (b' : Int) - a') (hl : n * 2 ^ a = d * 2 ^ b) : n * 2 ^ a' = d * 2 ^ b' := by
  have h1 := sp_le (a' := a') (b' := b') h (Nat.le_of_eq hl.symm)
  by_cases hh : d * 2 ^ b' < n * 2 ^ a'
  · have := sp_lt (n := d) (d := n) (a := b') (b := a') (a' := b) (b' := a) (by omega) hh
    omega
  · omega
/-- .. and it grows with the power -/
theorem sp_up {n d a b b' : Nat} (hb : b ≤ b') (hl : n * 2 ^ a < d * 2 ^ b) : n * 2 ^ a < d * 2 ^ b' :=
  Nat.lt_of_lt_of_le hl (Nat.mul_le_mul_left _ (Nat.pow_le_pow_right (by decide) hb))

theorem lgD_up {n d a b : Nat} (hn : n ≠ 0) (hd : d ≠ 0) (h : (b : Int) - a = lgD n d + 1) : n * 2 ^ a < d * 2 ^ b := by
  have h1 := bitLen_lt n
  have h2 := bitLen_le hd
  have h3 := bitLen_pos hd
  unfold lgD at h
  -- n < 2^L1 = 2^(L2-1) * 2^(D+1)
  refine sp_lt (a := bitLen d - 1) (b := bitLen n) (by omega) ?_
  have e1 : n * 2 ^ (bitLen d - 1) < 2 ^ bitLen n * 2 ^ (bitLen d - 1) := Nat.mul_lt_mul_of_pos_right h1 (pp _)
  have e2 : 2 ^ bitLen n * 2 ^ (bitLen d - 1) ≤ 2 ^ bitLen n * d := Nat.mul_le_mul_left _ h2
  rw [Nat.mul_comm d]
  omega
theorem lgD_low {n d a b : Nat} (hn : n ≠ 0) (hd : d ≠ 0) (h : (b : Int) - a = lgD n d - 1) : d * 2 ^ b ≤ n * 2 ^ a := by
  have h1 := bitLen_lt d
  have h2 := bitLen_le hn
  have h3 := bitLen_pos hn
  unfold lgD at h
  refine sp_le (a := bitLen d) (b := bitLen n - 1) (by omega) ?_
  have e1 : d * 2 ^ (bitLen n - 1) ≤ 2 ^ bitLen d * 2 ^ (bitLen n - 1) := Nat.mul_le_mul_right _ (Nat.le_of_lt h1)
  have e2 : 2 ^ bitLen d * 2 ^ (bitLen n - 1) ≤ 2 ^ bitLen d * n := Nat.mul_le_mul_left _ h2
  rw [Nat.mul_comm n]
  omega

theorem lg2_up {n d : Nat} {lo hi : Int} {a b : Nat} (hn : n ≠ 0) (hd : d ≠ 0) (hr : lg2 n d lo hi ≤ hi) (h : (b : Int) - a = lg2 n d lo hi + 1) : n * 2 ^ a < d * 2 ^ b := by
  unfold lg2 at hr h
  split at hr
  · omega
  · rename_i h1
    rw [if_neg h1] at h
    split at hr
    · rename_i h2
      rw [if_pos h2] at h
      -- lgD < lo = b - a
      have hb' : ∃ c : Nat, c ≤ b + a ∧ (c : Int) - ((a + a : Nat) : Int) = (b : Int) - a := ⟨b + a, Nat.le_refl _, by omega⟩
      have h3 := lgD_up (a := a + (lo - (lgD n d + 1)).toNat) (b := b) hn hd (by omega)
      rw [mulpow] at h3
      refine Nat.lt_of_le_of_lt ?_ h3
      exact Nat.le_mul_of_pos_right _ (pp _)
    · rename_i h2
      rw [if_neg h2] at h
      split at hr
      · rename_i h3
        rw [if_pos h3] at h
        exact sp_lt (by omega) h3
      · rename_i h3
        rw [if_neg h3] at h
        exact lgD_up hn hd h
theorem lg2_low {n d : Nat} {lo hi : Int} {a b : Nat} (hn : n ≠ 0) (hd : d ≠ 0) (hlo : lo ≤ hi + 1) (hr : lo ≤ lg2 n d lo hi) (h : (b : Int) - a = lg2 n d lo hi) : d * 2 ^ b ≤ n * 2 ^ a := by
  unfold lg2 at hr h
  split at hr
  · rename_i h1
    rw [if_pos h1] at h
    have h3 := lgD_low (a := a) (b := b + (lgD n d - 1 - (hi + 1)).toNat) hn hd (by omega)
    rw [mulpow] at h3
    refine Nat.le_trans ?_ h3
    exact Nat.le_mul_of_pos_right _ (pp _)
  · rename_i h1
    rw [if_neg h1] at h
    split at hr
    · omega
    · rename_i h2
      rw [if_neg h2] at h
      split at hr
      · rename_i h3
        rw [if_pos h3] at h
        exact lgD_low hn hd h
      · rename_i h3
        rw [if_neg h3] at h
        exact sp_le (a := (-lgD n d).toNat) (b := (lgD n d).toNat) (by omega) (by omega)

/-- the scaled quotient is small -/
theorem quot_lt {n d M : Nat} {K R : Int} (hd : d ≠ 0) (hK : (M : Int) - K ≥ R) (hup : ∀ a b : Nat, (b : Int) - a = R + 1 → n * 2 ^ a < d * 2 ^ b) : n * 2 ^ K.toNat / (d * 2 ^ (-K).toNat) < 2 ^ (M + 1) := by
  have hpos : 0 < d * 2 ^ (-K).toNat := Nat.mul_pos (by omega) (pp _)
  refine (Nat.div_lt_iff_lt_mul hpos).2 ?_
  have e : 2 ^ (M + 1) * (d * 2 ^ (-K).toNat) = d * 2 ^ ((-K).toNat + (M + 1)) := by rw [mulpow, Nat.mul_comm]
  rw [e]
  -- b - a = M + 1 - K >= R + 1
  obtain ⟨c, hc⟩ : ∃ c : Nat, (M : Int) - K - R = c := ⟨((M : Int) - K - R).toNat, by omega⟩
  have h1 := hup (K.toNat + c) ((-K).toNat + (M + 1)) (by push_cast; omega)
  rw [mulpow] at h1
  exact Nat.lt_of_le_of_lt (Nat.le_mul_of_pos_right _ (pp _)) h1

end Go.Proofs.Ygcoaj
