/-
  PLAIN and WALKS: wide.root.
-/
import Derived.Test.YgcoajWd1
set_option linter.unusedVariables false
set_option linter.unusedSimpArgs false
namespace Go.Proofs.Ygcoaj
open Go.RowKit

/-- s is the floor of x's square root -/
def IsRoot (x s : Nat) : Prop := s * s ≤ x ∧ x < (s + 1) * (s + 1)

/-- sixteen bits by sixteen turns: before the turn with 2^k = bit (k + 1 turns left) -/
structure RootTo (top bit s left : Nat) : Prop where
  eq : left + s * s = top
  up : top < (s + 2 * bit) * (s + 2 * bit)
  dvd : s % (2 * bit) = 0

theorem root_take {top bit s left : Nat} (h : RootTo top (2 * bit) s left) (hb : 0 < bit) (hle : (2 * s + 2 * bit) * (2 * bit) ≤ left) : RootTo top bit (s + 2 * bit) (left - (2 * s + 2 * bit) * (2 * bit)) := by
  obtain ⟨h1, h2, h3⟩ := h
  refine ⟨?_, ?_, ?_⟩
  · have e : (s + 2 * bit) * (s + 2 * bit) = s * s + (2 * s + 2 * bit) * (2 * bit) := by grind
    rw [e]; omega
  · have e : s + 2 * bit + 2 * bit = s + 2 * (2 * bit) := by omega
    rw [e]; exact h2
  · have : (s + 2 * bit) % (2 * bit) = s % (2 * bit) := Nat.add_mod_right _ _
    rw [this]
    have h4 : s % (2 * bit) = s % (2 * (2 * bit)) % (2 * bit) := (Nat.mod_mod_of_dvd s ⟨2, by omega⟩).symm
    rw [h4, h3]; simp
theorem root_leave {top bit s left : Nat} (h : RootTo top (2 * bit) s left) (hlt : left < (2 * s + 2 * bit) * (2 * bit)) : RootTo top bit s left := by
  obtain ⟨h1, h2, h3⟩ := h
  refine ⟨h1, ?_, ?_⟩
  · have e : (s + 2 * bit) * (s + 2 * bit) = s * s + (2 * s + 2 * bit) * (2 * bit) := by grind
    rw [e]; omega
  · have h4 : s % (2 * bit) = s % (2 * (2 * bit)) % (2 * bit) := (Nat.mod_mod_of_dvd s ⟨2, by omega⟩).symm
    rw [h4, h3]; simp

/-- the lower half by one division: at most one too great -/
theorem root_low {B S x top xl left T xr t l : Nat} (hB : 0 < B) (hS : B ≤ 2 * S) (htop : left + S * S = top) (hup : top < (S + 1) * (S + 1)) (hx : x = top * (B * B) + xl) (hxl : xl < B * B)
    (hT : T = left * B + xl / B) (hl : l = min (T / (2 * S)) (B - 1)) : IsRoot x (S * B + l) ∨ (l ≠ 0 ∧ x < (S * B + l) * (S * B + l) ∧ IsRoot x (S * B + l - 1)) := by
  have hpos : 0 < 2 * S := by omega
  have hxe : x = S * B * (S * B) + T * B + xl % B := by
    have e1 := Nat.div_add_mod xl B
    rw [hx, hT, ← htop, Nat.add_mul, Nat.add_mul (left * B)]
    have e2 : left * B * B = left * (B * B) := by rw [Nat.mul_assoc]
    have e3 : S * B * (S * B) = S * S * (B * B) := by grind
    rw [e2, e3, Nat.mul_comm (xl / B) B]
    omega
  have hxm : xl % B < B := Nat.mod_lt _ hB
  have hlB : l ≤ B - 1 := by rw [hl]; exact Nat.min_le_right _ _
  have hlT : 2 * S * l ≤ T := by
    have h1 : l ≤ T / (2 * S) := by rw [hl]; exact Nat.min_le_left _ _
    have h2 := Nat.mul_le_mul_left (2 * S) h1
    have h3 := Nat.mul_div_le T (2 * S)
    omega
  -- the square of the next: above x
  have hnext : x < (S * B + l + 1) * (S * B + l + 1) := by
    rcases Nat.lt_or_ge (T / (2 * S)) (B - 1) with hc | hc
    · have hll : l = T / (2 * S) := by rw [hl]; exact Nat.min_eq_left (by omega)
      have h4 : T < 2 * S * (l + 1) := by
        rw [hll, Nat.mul_comm]
        exact Nat.lt_mul_of_div_lt (Nat.lt_succ_self _) hpos
      have h5 : (T + 1) * B ≤ 2 * S * (l + 1) * B := Nat.mul_le_mul_right _ h4
      have e : (S * B + l + 1) * (S * B + l + 1) = S * B * (S * B) + 2 * S * (l + 1) * B + (l + 1) * (l + 1) := by grind
      rw [e, hxe]
      rw [Nat.add_mul] at h5
      omega
    · have hll : l + 1 = B := by rw [hl, Nat.min_eq_right (by omega)]; omega
      have e : (S * B + l + 1) * (S * B + l + 1) = (S + 1) * (S + 1) * (B * B) := by
        have : S * B + l + 1 = (S + 1) * B := by rw [Nat.add_mul, Nat.one_mul]; omega
        rw [this]; grind
      rw [e, hx]
      have h6 : (top + 1) * (B * B) ≤ (S + 1) * (S + 1) * (B * B) := Nat.mul_le_mul_right _ hup
      rw [Nat.add_mul] at h6
      omega
  by_cases hc : (S * B + l) * (S * B + l) ≤ x
  · exact Or.inl ⟨hc, hnext⟩
  · have hl0 : l ≠ 0 := by
      rintro rfl
      apply hc
      rw [hxe]
      simp only [Nat.add_zero]
      omega
    refine Or.inr ⟨hl0, by omega, ?_, ?_⟩
    · obtain ⟨m, rfl⟩ := Nat.exists_eq_succ_of_ne_zero hl0
      have e0 : S * B + m.succ - 1 = S * B + m := by omega
      rw [e0, hxe]
      have e : (S * B + m) * (S * B + m) = S * B * (S * B) + 2 * S * m * B + m * m := by grind
      rw [e]
      have h7 : 2 * S * m * B + 2 * S * B ≤ T * B := by
        have := Nat.mul_le_mul_right B hlT
        rw [Nat.mul_succ, Nat.add_mul] at this
        exact this
      have h8 : m * m ≤ 2 * S * B := by
        have h9 : m * m ≤ B * B := Nat.mul_le_mul (by omega) (by omega)
        have h10 : B * B ≤ 2 * S * B := Nat.mul_le_mul_right _ hS
        omega
      omega
    · have e0 : S * B + l - 1 + 1 = S * B + l := by omega
      rw [e0]; omega

end Go.Proofs.Ygcoaj
