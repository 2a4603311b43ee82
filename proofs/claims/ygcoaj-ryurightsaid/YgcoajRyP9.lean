/-
  PLAIN: the logarithm that exact asks for, and the parts of a number.
-/
import Derived.Test.YgcoajRyP8
import Derived.Test.YgcoajXsLaw
set_option linter.unusedVariables false
set_option linter.unusedSimpArgs false
namespace Go.Proofs.Ygcoaj
open Go.RowKit

theorem lg_exists {n d : Nat} {Df : Int} (hd : 0 < d) (h1 : -1100 ≤ Df) (h2 : Df ≤ 1030) (hlo : d * 2 ^ Df.toNat ≤ n * 2 ^ (-Df).toNat) (hhi : n * 2 ^ (-Df).toNat < 2 * (d * 2 ^ Df.toNat)) :
    ∃ T : Int, lgLe T n d ∧ ¬ lgLe (T + 1) n d ∧ Df * 1233 / 4096 - 1 ≤ T ∧ -400 ≤ T ∧ T ≤ 400 := by
  obtain ⟨l1, l2⟩ := l10_ok h1 h2
  have hest : Df * 1233 / 4096 - 1 ≤ l10 Df ∧ -340 ≤ l10 Df ∧ l10 Df ≤ 340 := by unfold l10; omega
  obtain ⟨l, hl⟩ : ∃ l, l = l10 Df := ⟨_, rfl⟩
  rw [← hl] at l1 l2 hest
  clear hl
  have a0 : lgLe l n d := by
    unfold lgLe
    have hy : 0 < 2 ^ (-Df).toNat := Nat.pow_pos (by decide)
    generalize 10 ^ l.toNat = a at *
    generalize 10 ^ (-l).toNat = b at *
    generalize 2 ^ Df.toNat = x at *
    generalize 2 ^ (-Df).toNat = y at *
    refine Nat.le_of_mul_le_mul_right ?_ hy
    calc a * d * y = d * (a * y) := by grind
      _ ≤ d * (x * b) := Nat.mul_le_mul_left _ l1
      _ = d * x * b := by rw [Nat.mul_assoc]
      _ ≤ n * y * b := Nat.mul_le_mul_right _ hlo
      _ = n * b * y := by grind
  have a2 : ¬ lgLe (l + 2) n d := by
    unfold lgLe
    rw [Nat.not_le]
    have e10 : 10 ^ (l + 2).toNat * 10 ^ (-(l + 1)).toNat = 10 * 10 ^ (l + 1).toNat * 10 ^ (-(l + 2)).toNat := by
      rw [show (10 : Nat) * 10 ^ (l + 1).toNat = 10 ^ ((l + 1).toNat + 1) from by rw [Nat.pow_succ, Nat.mul_comm], ← Nat.pow_add, ← Nat.pow_add]; congr 1; omega
    have hy : 0 < 2 ^ (-Df).toNat := Nat.pow_pos (by decide)
    have hb1 : 0 < 10 ^ (-(l + 1)).toNat := t10 _
    have hb2 : 0 < 10 ^ (-(l + 2)).toNat := t10 _
    generalize 10 ^ (l + 2).toNat = a2 at *
    generalize 10 ^ (-(l + 2)).toNat = b2 at *
    generalize 10 ^ (l + 1).toNat = a1 at *
    generalize 10 ^ (-(l + 1)).toNat = b1 at *
    generalize 2 ^ Df.toNat = x at *
    generalize 2 ^ (-Df).toNat = y at *
    have s1 : n * b1 < 2 * (a1 * d) := by
      refine Nat.lt_of_mul_lt_mul_right (a := y) ?_
      calc n * b1 * y = n * y * b1 := by grind
        _ < 2 * (d * x) * b1 := Nat.mul_lt_mul_of_pos_right hhi hb1
        _ = 2 * d * (x * b1) := by grind
        _ ≤ 2 * d * (a1 * y) := Nat.mul_le_mul_left _ (Nat.le_of_lt l2)
        _ = 2 * (a1 * d) * y := by grind
    refine Nat.lt_of_mul_lt_mul_right (a := b1) ?_
    calc n * b2 * b1 = n * b1 * b2 := by grind
      _ < 2 * (a1 * d) * b2 := Nat.mul_lt_mul_of_pos_right s1 hb2
      _ ≤ 10 * (a1 * d) * b2 := Nat.mul_le_mul_right _ (by omega)
      _ = 10 * a1 * b2 * d := by grind
      _ = a2 * b1 * d := by rw [e10]
      _ = a2 * d * b1 := by grind
  by_cases a1 : lgLe (l + 1) n d
  · exact ⟨l + 1, a1, by rw [show l + 1 + 1 = l + 2 from by omega]; exact a2, by omega, by omega, by omega⟩
  · exact ⟨l, a0, a1, by omega, by omega, by omega⟩

theorem bits_shift {x M k : Nat} (h1 : 2 ^ M ≤ x) (h2 : x < 2 ^ (M + 1)) : bitLen (x * 2 ^ k) = M + k + 1 := by
  refine bitLen_uniq ?_ ?_
  · rw [Nat.pow_add]; exact Nat.mul_le_mul_right _ h1
  · rw [show M + k + 1 = M + 1 + k from by omega, Nat.pow_add 2 (M + 1)]; exact Nat.mul_lt_mul_of_pos_right h2 (Nat.pow_pos (by decide))
theorem bits_pow (k : Nat) : bitLen (2 ^ k) = k + 1 := bitLen_uniq (Nat.le_refl _) (Nat.pow_lt_pow_right (by decide) (by omega))

theorem upM_range {E M x : Nat} (hC : upC E M x = 1 ∨ upC E M x = 2) : 2 ^ M ≤ upM E M x ∧ upM E M x < 2 ^ (M + 1) := by
  have hf : fMan M x < 2 ^ M := Nat.mod_lt _ (Nat.pow_pos (by decide))
  unfold upM
  rcases hC with hC | hC
  · rw [if_pos hC]
    have hf0 : fMan M x ≠ 0 := by
      intro h0
      unfold upC at hC
      rw [h0] at hC
      repeat' split at hC
      all_goals simp_all
    have hbl := bitLen_le_of_lt hf
    have b1 := bitLen_le hf0
    have b2 := bitLen_lt (fMan M x)
    have b3 := bitLen_pos hf0
    constructor
    · calc 2 ^ M = 2 ^ (bitLen (fMan M x) - 1) * 2 ^ (M + 1 - bitLen (fMan M x)) := by rw [← Nat.pow_add]; congr 1; omega
        _ ≤ _ := Nat.mul_le_mul_right _ b1
    · calc fMan M x * 2 ^ (M + 1 - bitLen (fMan M x)) < 2 ^ bitLen (fMan M x) * 2 ^ (M + 1 - bitLen (fMan M x)) := Nat.mul_lt_mul_of_pos_right b2 (Nat.pow_pos (by decide))
        _ = 2 ^ (M + 1) := by rw [← Nat.pow_add]; congr 1; omega
  · rw [if_neg (by omega), if_pos hC, Nat.pow_succ]
    omega

/-- exact's numbers: their lengths and the logarithm -/
theorem num_log {E M x : Nat} (h : FOk E M) (hC : upC E M x = 1 ∨ upC E M x = 2) (hE1 : -1100 ≤ (M : Int) + upE E M x) (hE2 : (M : Int) + upE E M x ≤ 1030) :
    0 < vDen E M x ∧ bitLen (vNum E M x) ≤ 1000000 ∧ bitLen (vDen E M x) ≤ 1000000 ∧ -10000 ≤ (bitLen (vNum E M x) : Int) - (bitLen (vDen E M x) : Int) ∧ (bitLen (vNum E M x) : Int) - (bitLen (vDen E M x) : Int) ≤ 10000 ∧
    ∃ T : Int, lgLe T (vNum E M x) (vDen E M x) ∧ ¬ lgLe (T + 1) (vNum E M x) (vDen E M x) ∧ ((bitLen (vNum E M x) : Int) - (bitLen (vDen E M x) : Int)) * 1233 / 4096 - 1 ≤ T ∧ -400 ≤ T ∧ T ≤ 400 := by
  obtain ⟨m1, m2⟩ := upM_range hC
  have hr := upE_range h x
  have hM := h.m52
  unfold vNum vDen
  rw [bits_shift m1 m2, bits_pow]
  generalize upM E M x = m at *
  generalize upE E M x = e at *
  obtain ⟨Df, hDf⟩ : ∃ Df : Int, Df = (M : Int) + e := ⟨_, rfl⟩
  have hdf2 : ((M + e.toNat + 1 : Nat) : Int) - (((-e).toNat + 1 : Nat) : Int) = Df := by omega
  rw [hdf2]
  have hd : 0 < 2 ^ (-e).toNat := Nat.pow_pos (by decide)
  have ex : 2 ^ M * (2 ^ e.toNat * 2 ^ (-Df).toNat) = 2 ^ (-e).toNat * 2 ^ Df.toNat := by
    rw [← Nat.pow_add, ← Nat.pow_add, ← Nat.pow_add]; congr 1; omega
  refine ⟨hd, by omega, by omega, by omega, by omega, lg_exists hd (by omega) (by omega) ?_ ?_⟩
  · rw [← ex, Nat.mul_assoc]; exact Nat.mul_le_mul_right _ m1
  · rw [← ex, Nat.mul_assoc, ← Nat.mul_assoc 2, show 2 * 2 ^ M = 2 ^ (M + 1) from by rw [Nat.pow_succ, Nat.mul_comm]]
    exact Nat.mul_lt_mul_of_pos_right m2 (Nat.mul_pos (Nat.pow_pos (by decide)) (Nat.pow_pos (by decide)))

/-- the pattern from its parts -/
theorem pat_parts {E M x : Nat} (hx : x < 2 ^ (E + M + 1)) : x = sgnd E M (fNeg E M x) (fExp E M x * 2 ^ M + fMan M x) := by
  unfold sgnd fNeg fExp fMan
  have e1 : x / 2 ^ M % 2 ^ E * 2 ^ M + x % 2 ^ M = x % 2 ^ (E + M) := by
    rw [Nat.pow_add, Nat.mul_comm (2 ^ E), Nat.mod_mul]
    rw [Nat.mul_comm (x / 2 ^ M % 2 ^ E), Nat.add_comm]
  rw [e1]
  have hq : x / 2 ^ (E + M) < 2 := by
    rw [Nat.div_lt_iff_lt_mul (Nat.pow_pos (by decide)), Nat.mul_comm, ← Nat.pow_succ]; exact hx
  have hdm := Nat.div_add_mod x (2 ^ (E + M))
  rw [Nat.testBit_eq_decide_div_mod_eq]
  clear e1 hx
  generalize x / 2 ^ (E + M) = y at *
  generalize x % 2 ^ (E + M) = z at *
  by_cases hb : y % 2 = 1
  · rw [decide_eq_true hb, if_pos rfl]
    obtain rfl : y = 1 := by omega
    rw [Nat.mul_one] at hdm
    omega
  · rw [decide_eq_false hb, if_neg (by decide)]
    obtain rfl : y = 0 := by omega
    rw [Nat.mul_zero] at hdm
    omega

end Go.Proofs.Ygcoaj
