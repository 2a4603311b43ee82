/-
  PLAIN: least remainders: of m * A by B, over all m below a bound.
-/
import Derived.Test.YgcoajBn0
set_option linter.unusedVariables false
set_option linter.unusedSimpArgs false
namespace Go.Proofs.Ygcoaj
open Go.RowKit

/-- two multiples of A, one r above a multiple of B, the other r2 below one, that span all -/
structure Near (A B p r p2 r2 : Nat) : Prop where
  up : ∃ k : Nat, p * A = k * B + r
  down : ∃ k : Nat, p2 * A + r2 = k * B
  det : p * r2 + p2 * r = B
  rpos : 0 < r2

theorem near_start {A B : Nat} (hB : 0 < B) : Near A B 1 (A % B) 0 B :=
  ⟨⟨A / B, by rw [Nat.one_mul, Nat.mul_comm]; exact (Nat.div_add_mod A B).symm⟩, ⟨1, by simp⟩, by simp, hB⟩
theorem near_low {A B p r p2 r2 k : Nat} (h : Near A B p r p2 r2) (hk : k * r < r2) : Near A B p r (p2 + k * p) (r2 - k * r) := by
  obtain ⟨⟨x, hx⟩, ⟨y, hy⟩, hd, hr⟩ := h
  refine ⟨⟨x, hx⟩, ⟨y + k * x, ?_⟩, ?_, by omega⟩
  · have e1 : (p2 + k * p) * A = p2 * A + k * (p * A) := by rw [Nat.add_mul, Nat.mul_assoc]
    have e2 : k * (p * A) = k * x * B + k * r := by rw [hx, Nat.mul_add, Nat.mul_assoc]
    rw [e1, e2, Nat.add_mul, ← hy]
    omega
  · have e1 : (p2 + k * p) * r = p2 * r + p * (k * r) := by rw [Nat.add_mul]; grind
    have e2 : p * r2 = p * (r2 - k * r) + p * (k * r) := by rw [← Nat.mul_add]; congr 1; omega
    rw [e1]
    omega
theorem near_high {A B p r p2 r2 k : Nat} (h : Near A B p r p2 r2) (hk : k * r2 ≤ r) : Near A B (p + k * p2) (r - k * r2) p2 r2 := by
  obtain ⟨⟨x, hx⟩, ⟨y, hy⟩, hd, hr⟩ := h
  have e1 : (p + k * p2) * A + k * r2 = p * A + k * (p2 * A + r2) := by rw [Nat.add_mul, Nat.mul_add, Nat.mul_assoc]; omega
  rw [hy, hx] at e1
  refine ⟨⟨x + k * y, ?_⟩, ⟨y, hy⟩, ?_, hr⟩
  · have e2 : (x + k * y) * B = x * B + k * (y * B) := by rw [Nat.add_mul, Nat.mul_assoc]
    rw [e2]
    omega
  · have e3 : (p + k * p2) * r2 = p * r2 + p2 * (k * r2) := by rw [Nat.add_mul]; grind
    have e4 : p2 * r = p2 * (r - k * r2) + p2 * (k * r2) := by rw [← Nat.mul_add]; congr 1; omega
    rw [e3]
    omega

/-- no multiple below p + p2 comes nearer -/
theorem near_least {A B p r p2 r2 m : Nat} (h : Near A B p r p2 r2) (hm0 : 0 < m) (hm : m < p + p2) : r ≤ m * A % B ∧ r2 ≤ B - m * A % B := by
  obtain ⟨⟨x, hx⟩, ⟨y, hy⟩, hd, hr⟩ := h
  have hB : 0 < B := by
    rcases Nat.eq_zero_or_pos B with hz | hz
    · rw [hz] at hd
      have hp : p = 0 := by
        rcases Nat.eq_zero_or_pos p with h0 | h0
        · exact h0
        · have := Nat.mul_pos h0 hr; omega
      subst hp
      rw [hz] at hx hy
      simp at hx hy hd
      omega
    · exact hz
  obtain ⟨s, hs⟩ : ∃ s, s = m * A % B := ⟨_, rfl⟩
  obtain ⟨t, ht⟩ : ∃ t, t = m * A / B := ⟨_, rfl⟩
  have hms : m * A = t * B + s := by rw [hs, ht, Nat.mul_comm (m * A / B)]; exact (Nat.div_add_mod _ _).symm
  have hsB : s < B := by rw [hs]; exact Nat.mod_lt _ hB
  rw [← hs]
  -- the two coordinates, as integers
  obtain ⟨i, hi⟩ : ∃ i : Int, i = (m : Int) * y - (p2 : Int) * t := ⟨_, rfl⟩
  obtain ⟨j, hj⟩ : ∃ j : Int, j = (p : Int) * t - (m : Int) * x := ⟨_, rfl⟩
  have hxI : (p : Int) * A = x * B + r := by exact_mod_cast hx
  have hyI : (p2 : Int) * A + r2 = y * B := by exact_mod_cast hy
  have hdI : (p : Int) * r2 + p2 * r = B := by exact_mod_cast hd
  have hmI : (m : Int) * A = t * B + s := by exact_mod_cast hms
  have k1 : i * B = (m : Int) * r2 + p2 * s := by
    rw [hi]
    have : ((m : Int) * y - p2 * t) * B = m * (y * B) - p2 * (t * B) := by grind
    rw [this, ← hyI]
    have : t * (B : Int) = m * A - s := by omega
    rw [this]
    grind
  have k2 : j * B = (m : Int) * r - p * s := by
    rw [hj]
    have : ((p : Int) * t - m * x) * B = p * (t * B) - m * (x * B) := by grind
    rw [this]
    have e1 : t * (B : Int) = m * A - s := by omega
    have e2 : x * (B : Int) = p * A - r := by omega
    rw [e1, e2]
    grind
  have hBI : (0 : Int) < B := by omega
  -- m and s from the coordinates
  have c1 : (m : Int) = i * p + j * p2 := by
    have : (m : Int) * B = (i * p + j * p2) * B := by
      have e1 : (i * p + j * p2) * (B : Int) = (i * B) * p + (j * B) * p2 := by grind
      rw [e1, k1, k2, ← hdI]
      grind
    exact Int.eq_of_mul_eq_mul_right (by omega) this
  have c2 : (s : Int) = i * r - j * r2 := by
    have : (s : Int) * B = (i * r - j * r2) * B := by
      have e1 : (i * r - j * r2) * (B : Int) = (i * B) * r - (j * B) * r2 := by grind
      rw [e1, k1, k2, ← hdI]
      grind
    exact Int.eq_of_mul_eq_mul_right (by omega) this
  have hi1 : 1 ≤ i := by
    have h1 : 0 < i * B := by
      rw [k1]
      have h2 : (0 : Int) < (m : Int) * r2 := Int.mul_pos (by omega) (by omega)
      have h3 : (0 : Int) ≤ (p2 : Int) * s := Int.mul_nonneg (by omega) (by omega)
      omega
    rcases Int.lt_or_le i 1 with hc | hc
    · have : i * (B : Int) ≤ 0 := Int.mul_nonpos_of_nonpos_of_nonneg (by omega) (by omega)
      omega
    · exact hc
  constructor
  · rcases Nat.lt_or_ge s r with hc | hc
    · exfalso
      have hj1 : 1 ≤ j := by
        rcases Int.lt_or_le j 1 with hj0 | hj0
        · have h1 : j * (r2 : Int) ≤ 0 := Int.mul_nonpos_of_nonpos_of_nonneg (by omega) (by omega)
          have h2 : (1 : Int) * r ≤ i * r := Int.mul_le_mul_of_nonneg_right hi1 (by omega)
          omega
        · exact hj0
      have h1 : (1 : Int) * p ≤ i * p := Int.mul_le_mul_of_nonneg_right hi1 (by omega)
      have h2 : (1 : Int) * p2 ≤ j * p2 := Int.mul_le_mul_of_nonneg_right hj1 (by omega)
      omega
    · exact hc
  · -- B - s from the other side: (m, s - B) has coordinates i - p2.., j + p
    rcases Nat.lt_or_ge (B - s) r2 with hc | hc
    · exfalso
      -- s - B = i' * r - j' * r2 with i' = i - p2, j' = j + p
      obtain ⟨i', hi'⟩ : ∃ i' : Int, i' = i - p2 := ⟨_, rfl⟩
      obtain ⟨j', hj'⟩ : ∃ j' : Int, j' = j + p := ⟨_, rfl⟩
      have d1 : (m : Int) = i' * p + j' * p2 := by rw [c1, hi', hj']; grind
      have d2 : (s : Int) - B = i' * r - j' * r2 := by rw [hi', hj', c2, ← hdI]; grind
      have d3 : j' * B = (m : Int) * r + p * (B - s) := by
        rw [hj']
        have : (j + p) * (B : Int) = j * B + p * B := by grind
        rw [this, k2]; grind
      have hj1 : 1 ≤ j' := by
        rcases Int.lt_or_le j' 1 with hj0 | hj0
        · exfalso
          have h1 : j' * (B : Int) ≤ 0 := Int.mul_nonpos_of_nonpos_of_nonneg (by omega) (by omega)
          have h2 : (0 : Int) ≤ (m : Int) * r := Int.mul_nonneg (by omega) (by omega)
          have h3 : (0 : Int) ≤ (p : Int) * (B - s) := Int.mul_nonneg (by omega) (by omega)
          have h4 : (m : Int) * r = 0 := by omega
          have h5 : (p : Int) * (B - s) = 0 := by omega
          have hp : (p : Int) = 0 := by
            rcases Int.mul_eq_zero.1 h5 with h | h
            · exact h
            · omega
          have hr0 : (r : Int) = 0 := by
            rcases Int.mul_eq_zero.1 h4 with h | h
            · omega
            · exact h
          rw [hp, hr0] at hdI
          omega
        · exact hj0
      have hi2 : 1 ≤ i' := by
        rcases Int.lt_or_le i' 1 with h0 | h0
        · have h1 : i' * (r : Int) ≤ 0 := Int.mul_nonpos_of_nonpos_of_nonneg (by omega) (by omega)
          have h2 : (1 : Int) * r2 ≤ j' * r2 := Int.mul_le_mul_of_nonneg_right hj1 (by omega)
          omega
        · exact h0
      have h1 : (1 : Int) * p ≤ i' * p := Int.mul_le_mul_of_nonneg_right hi2 (by omega)
      have h2 : (1 : Int) * p2 ≤ j' * p2 := Int.mul_le_mul_of_nonneg_right hj1 (by omega)
      omega
    · exact hc

end Go.Proofs.Ygcoaj
