/-
  PLAIN: the two ways to the shortest decimal meet (2): the interval, the hits.
-/
import Derived.Test.YgcoajRyP5
set_option linter.unusedVariables false
set_option linter.unusedSimpArgs false
namespace Go.Proofs.Ygcoaj
open Go.RowKit

/-- the three numbers, scaled -/
def iv (e q : Int) (m bel : Nat) : Nat × Nat × Nat := (trN e q (4 * m - bel), trN e q (4 * m), trN e q (4 * m + 2))
/-- the unit of the scaled numbers -/
def u0 (e q : Int) : Nat := 2 ^ e.toNat * 10 ^ (-q).toNat
theorem trN_u0 (e q : Int) (m : Nat) : trN e q m = m * u0 e q := by unfold trN u0; rw [Nat.mul_assoc]
theorem u0_pos (e q : Int) : 0 < u0 e q := Nat.mul_pos (Nat.pow_pos (by decide)) (Nat.pow_pos (by decide))

/-- a candidate reads back where it lies in the interval -/
theorem hit {E M : Nat} {neg : Bool} {m De c j bel : Nat} {e q : Int} (h : FOk E M) (hm0 : 0 < m) (hm2 : m < 2 * 2 ^ M) (hDe : De ≠ 0 → 2 ^ M ≤ m) (hfin : De * 2 ^ M + m < infN E M)
    (hbel : bel = belN M m De) (he : e = (De : Int) - biasN E - M - 1) (hc : 0 < c) :
    cdN E M neg c (q + (j : Int)) = sgnd E M neg (De * 2 ^ M + m) ↔ InI (trN e q (4 * m - bel)) (trN e q (4 * m + 2)) (decide (m % 2 = 0)) (un (trD e q) j) c := by
  have hb1 : 1 ≤ biasN E := by
    have := h.e2
    unfold biasN
    have p : 2 ^ 1 ≤ 2 ^ (E - 1) := Nat.pow_le_pow_right (by decide) (by omega)
    omega
  have hble : bel ≤ 4 * m := by rw [hbel]; unfold belN; split <;> omega
  unfold cdN
  rw [readback h (Nat.pos_iff_ne_zero.1 (Nat.mul_pos hc (t10 _))) (Nat.pos_iff_ne_zero.1 (t10 _)) hm2 hDe hfin, ← hbel, trN_u0, trN_u0]
  obtain ⟨k, hk⟩ : ∃ k, k = q + (j : Int) := ⟨_, rfl⟩
  rw [← hk]
  obtain ⟨U, hU⟩ : ∃ U, U = 10 ^ (-k).toNat * 2 ^ De := ⟨_, rfl⟩
  obtain ⟨Z, hZ⟩ : ∃ Z, Z = 4 * (10 ^ k.toNat * 2 ^ (biasN E + M - 1)) := ⟨_, rfl⟩
  have hZ4 : 4 * (c * 10 ^ k.toNat * 2 ^ (biasN E + M - 1)) = c * Z := by rw [hZ, Nat.mul_left_comm c 4, Nat.mul_assoc]
  have hZp : 0 < Z := by rw [hZ]; exact Nat.mul_pos (by decide) (Nat.mul_pos (t10 _) (Nat.pow_pos (by decide)))
  have hD : 0 < un (trD e q) j := un_pos (trD_pos e q) j
  have hrat : U * un (trD e q) j = u0 e q * Z := by
    rw [hU, hZ]
    unfold un trD u0
    have e2 : 2 ^ De * 2 ^ (-e).toNat = 2 ^ e.toNat * (4 * 2 ^ (biasN E + M - 1)) := by
      rw [show (4 : Nat) = 2 ^ 2 from rfl, ← Nat.pow_add, ← Nat.pow_add, ← Nat.pow_add]
      congr 1; omega
    have e10 : 10 ^ (-k).toNat * (10 ^ q.toNat * 10 ^ j) = 10 ^ (-q).toNat * 10 ^ k.toNat := by
      rw [← Nat.pow_add, ← Nat.pow_add, ← Nat.pow_add]
      congr 1; omega
    generalize 10 ^ (-k).toNat = A1 at *
    generalize 2 ^ De = A2 at *
    generalize 2 ^ (-e).toNat = A3 at *
    generalize 10 ^ q.toNat = A4 at *
    generalize 10 ^ j = A5 at *
    generalize 2 ^ e.toNat = A6 at *
    generalize 10 ^ (-q).toNat = A7 at *
    generalize 10 ^ k.toNat = A8 at *
    generalize 2 ^ (biasN E + M - 1) = A9 at *
    calc A1 * A2 * (A3 * A4 * A5) = (A2 * A3) * (A1 * (A4 * A5)) := by grind
      _ = (A6 * (4 * A9)) * (A7 * A8) := by rw [e2, e10]
      _ = A6 * A7 * (4 * (A8 * A9)) := by grind
  unfold InR InI
  rw [hZ4, ← hU]
  have s1 : 4 * (m * U) ≤ c * Z + bel * U ↔ (4 * m - bel) * U ≤ c * Z := by
    rw [Nat.sub_mul, Nat.mul_assoc]
    omega
  have s2 : 4 * (m * U) < c * Z + bel * U ↔ (4 * m - bel) * U < c * Z := by
    have hx : bel * U ≤ 4 * (m * U) := by rw [← Nat.mul_assoc]; exact Nat.mul_le_mul_right _ hble
    rw [Nat.sub_mul, Nat.mul_assoc]
    omega
  have s3 : 4 * (m * U) + 2 * U = (4 * m + 2) * U := by rw [Nat.add_mul, Nat.mul_assoc]
  rw [s1, s2, s3, rat_le hZp hD hrat, rat_ge hZp hD hrat, rat_lt hZp hD hrat, rat_gt hZp hD hrat]
  by_cases hev : m % 2 = 0
  · rw [if_pos hev, if_pos (decide_eq_true hev)]
  · rw [if_neg hev, if_neg (by rw [decide_eq_false hev]; decide)]

end Go.Proofs.Ygcoaj
