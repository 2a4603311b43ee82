/-
  PLAIN: the two ways to the shortest decimal meet.
-/
import Derived.Test.YgcoajRyP4
import Derived.Test.YgcoajRy12
import Derived.Test.YgcoajCmpLaw
set_option linter.unusedVariables false
set_option linter.unusedSimpArgs false
namespace Go.Proofs.Ygcoaj
open Go.RowKit

/-! ### ratios -/
theorem rat_le {A c U Z U2 Z2 : Nat} (hZ : 0 < Z) (hZ2 : 0 < Z2) (h : U * Z2 = U2 * Z) : A * U ≤ c * Z ↔ A * U2 ≤ c * Z2 := by
  have e1 : A * U ≤ c * Z ↔ A * U * Z2 ≤ c * Z * Z2 := (Nat.mul_le_mul_right_iff hZ2).symm
  have e2 : A * U2 ≤ c * Z2 ↔ A * U2 * Z ≤ c * Z2 * Z := (Nat.mul_le_mul_right_iff hZ).symm
  rw [e1, e2, Nat.mul_assoc A U Z2, h, Nat.mul_assoc A U2 Z, Nat.mul_right_comm c Z Z2]
theorem rat_ge {A c U Z U2 Z2 : Nat} (hZ : 0 < Z) (hZ2 : 0 < Z2) (h : U * Z2 = U2 * Z) : c * Z ≤ A * U ↔ c * Z2 ≤ A * U2 := by
  have e1 : c * Z ≤ A * U ↔ c * Z * Z2 ≤ A * U * Z2 := (Nat.mul_le_mul_right_iff hZ2).symm
  have e2 : c * Z2 ≤ A * U2 ↔ c * Z2 * Z ≤ A * U2 * Z := (Nat.mul_le_mul_right_iff hZ).symm
  rw [e1, e2, Nat.mul_assoc A U Z2, h, Nat.mul_assoc A U2 Z, Nat.mul_right_comm c Z Z2]
theorem rat_lt {A c U Z U2 Z2 : Nat} (hZ : 0 < Z) (hZ2 : 0 < Z2) (h : U * Z2 = U2 * Z) : A * U < c * Z ↔ A * U2 < c * Z2 := by
  rw [← Nat.not_le, ← Nat.not_le, rat_ge hZ hZ2 h]
theorem rat_gt {A c U Z U2 Z2 : Nat} (hZ : 0 < Z) (hZ2 : 0 < Z2) (h : U * Z2 = U2 * Z) : c * Z < A * U ↔ c * Z2 < A * U2 := by
  rw [← Nat.not_le, ← Nat.not_le, rat_le hZ hZ2 h]

/-- equal ratios: equal floors, and remainders in ratio -/
theorem rat_div {P U V W : Nat} (hU : 0 < U) (hW : 0 < W) (h : P * W = V * U) : P / U = V / W := by
  have e1 : P * W / (U * W) = P / U := Nat.mul_div_mul_right _ _ hW
  have e2 : V * U / (W * U) = V / W := Nat.mul_div_mul_right _ _ hU
  rw [← e1, h, Nat.mul_comm U W, e2]
theorem rat_mod {P U V W : Nat} (hU : 0 < U) (hW : 0 < W) (h : P * W = V * U) : P % U * W = V % W * U := by
  have h1 := rat_div hU hW h
  have h2 := Nat.div_add_mod P U
  have h3 := Nat.div_add_mod V W
  have e1 : (U * (P / U) + P % U) * W = (W * (V / W) + V % W) * U := by rw [h2, h3, h]
  rw [Nat.add_mul, Nat.add_mul, h1, show U * (V / W) * W = W * (V / W) * U from by rw [Nat.mul_right_comm, Nat.mul_comm U W, Nat.mul_assoc, Nat.mul_comm U (V / W), ← Nat.mul_assoc]] at e1
  omega
theorem rat_half {P U V W : Nat} (hU : 0 < U) (hW : 0 < W) (h : P * W = V * U) : (2 * (P % U) < U ↔ 2 * (V % W) < W) ∧ (2 * (P % U) = U ↔ 2 * (V % W) = W) := by
  have h1 := rat_mod hU hW h
  generalize P % U = r at *
  generalize V % W = s at *
  constructor
  · have e1 : 2 * r < U ↔ 2 * r * W < U * W := (Nat.mul_lt_mul_right hW).symm
    have e2 : 2 * s < W ↔ 2 * s * U < W * U := (Nat.mul_lt_mul_right hU).symm
    rw [e1, e2, Nat.mul_assoc 2 r W, h1, Nat.mul_assoc 2 s U, Nat.mul_comm U W]
  · constructor
    · intro e
      have : 2 * r * W = U * W := by rw [e]
      rw [Nat.mul_assoc, h1, ← Nat.mul_assoc, Nat.mul_comm U W] at this
      exact Nat.eq_of_mul_eq_mul_right hU this
    · intro e
      have : 2 * s * U = W * U := by rw [e]
      rw [Nat.mul_assoc, ← h1, ← Nat.mul_assoc, Nat.mul_comm W U] at this
      exact Nat.eq_of_mul_eq_mul_right hW this

/-- what is cut off, against the half: exact's way -/
theorem ct_half {P Q A p : Nat} (hQ : 0 < Q) (hA : A = P / Q) (hp : p = 1 ∨ p % 2 = 0) (hp0 : 0 < p) :
    (ctH (A % p) p (hfX P Q) (smX P Q) < 0 ↔ 2 * (P % (Q * p)) < Q * p) ∧ (ctH (A % p) p (hfX P Q) (smX P Q) = 0 ↔ 2 * (P % (Q * p)) = Q * p) := by
  have hm : P % (Q * p) = P % Q + Q * (P / Q % p) := Nat.mod_mul
  rw [← hA] at hm
  have hr := Nat.mod_lt P hQ
  have hl := Nat.mod_lt A hp0
  unfold ctH hfX smX
  by_cases h1 : p = 1
  · rw [if_pos h1]
    subst h1
    rw [Nat.mul_one, Nat.mod_one, Nat.mul_zero, Nat.add_zero] at *
    unfold cmpZ
    constructor
    · repeat' split
      all_goals (constructor <;> intro hh <;> omega)
    · repeat' split
      all_goals (constructor <;> intro hh <;> omega)
  · rw [if_neg h1, hm]
    replace hp : p % 2 = 0 := hp.resolve_left h1
    generalize A % p = l at *
    generalize P % Q = r at *
    rcases Nat.lt_trichotomy p (2 * l) with hc | hc | hc
    · rw [if_pos (Or.inl hc)]
      have hx : Q * (p + 1) ≤ Q * (2 * l) := Nat.mul_le_mul_left _ hc
      rw [Nat.mul_add, Nat.mul_one, show Q * (2 * l) = 2 * (Q * l) from by rw [Nat.mul_left_comm]] at hx
      constructor <;> constructor <;> intro hh <;> omega
    · have hx : Q * p = 2 * (Q * l) := by rw [hc, Nat.mul_left_comm]
      by_cases hr0 : r = 0
      · rw [if_neg (by rintro (h | ⟨_, h⟩); omega; subst hr0; exact absurd h (by decide)), if_pos hc.symm]
        constructor <;> constructor <;> intro hh <;> omega
      · rw [if_pos (Or.inr ⟨hc.symm, by simp [hr0]⟩)]
        constructor <;> constructor <;> intro hh <;> omega
    · rw [if_neg (by rintro (h | ⟨h, _⟩) <;> omega), if_neg (by omega)]
      have hx : Q * (2 * l + 2) ≤ Q * p := Nat.mul_le_mul_left _ (by omega)
      rw [Nat.mul_add, show Q * (2 * l) = 2 * (Q * l) from by rw [Nat.mul_left_comm]] at hx
      constructor <;> constructor <;> intro hh <;> omega

end Go.Proofs.Ygcoaj
