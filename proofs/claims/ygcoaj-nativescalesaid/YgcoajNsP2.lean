/-
  PLAIN: comparing and multiplying the model's floats; bits of a word.
-/
import Derived.Test.YgcoajNsP
import Derived.Test.YgcoajSq2
set_option linter.unusedVariables false
set_option linter.unusedSimpArgs false
namespace Go.Proofs.Ygcoaj
open Go.RowKit

/-- a finite word's number in units of the least place -/
def sgv (E M a : Nat) : Int := if fNeg E M a then -(sVal E M a : Int) else (sVal E M a : Int)

theorem ord_scale {x y X Y : Int} {k : Nat} (hk : 0 < k) (hx : x * k = X) (hy : y * k = Y) : compare x y = compare X Y := by
  have h1 : X < Y ↔ x < y := by
    rw [← hx, ← hy]
    exact Int.mul_lt_mul_right (by omega)
  have h2 : X = Y ↔ x = y := by
    rw [← hx, ← hy]
    exact ⟨fun h => Int.eq_of_mul_eq_mul_right (by omega) h, fun h => by rw [h]⟩
  simp only [compare, compareOfLessAndEq, h1, h2]

theorem order_fin {E M a b : Nat} (h : FOk E M) (ha : upC E M a = 0 ∨ upC E M a = 1 ∨ upC E M a = 2) (hb : upC E M b = 0 ∨ upC E M b = 1 ∨ upC E M b = 2) :
    Ieee.Format.order ⟨E, M⟩ a b = some (compare (sgv E M a) (sgv E M b)) := by
  unfold Ieee.Format.order
  rw [read_fin h ha, read_fin h hb]
  have key : ∀ (z : Nat) (base : Int), 1 - (biasN E : Int) - (M : Int) ≤ base → base ≤ 1 - (biasN E : Int) - (M : Int) + ((fExp E M z - 1 : Nat) : Int) →
      Ieee.signed (fNeg E M z) (if fExp E M z = 0 then fMan M z else 2 ^ M + fMan M z) (1 - (biasN E : Int) - (M : Int) + ((fExp E M z - 1 : Nat) : Int) - base).toNat * ((2 ^ (base - (1 - (biasN E : Int) - (M : Int))).toNat : Nat) : Int) = sgv E M z := by
    intro z base h1 h2
    have e : (if fExp E M z = 0 then fMan M z else 2 ^ M + fMan M z) <<< (1 - (biasN E : Int) - (M : Int) + ((fExp E M z - 1 : Nat) : Int) - base).toNat * 2 ^ (base - (1 - (biasN E : Int) - (M : Int))).toNat = sVal E M z := by
      rw [Nat.shiftLeft_eq, Nat.mul_assoc, ← Nat.pow_add]
      unfold sVal
      by_cases h0 : fExp E M z = 0
      · rw [if_pos h0, if_pos h0, h0]
        have : (1 - (biasN E : Int) - (M : Int) + ((0 - 1 : Nat) : Int) - base).toNat + (base - (1 - (biasN E : Int) - (M : Int))).toNat = 0 := by omega
        rw [this, Nat.pow_zero, Nat.mul_one]
      · rw [if_neg h0, if_neg h0, Nat.add_comm (2 ^ M)]
        congr 2
        omega
    unfold Ieee.signed sgv
    rw [← e]
    split
    · push_cast; rw [Int.neg_mul]
    · push_cast; rfl
  show some (compare _ _) = _
  congr 1
  exact ord_scale (k := 2 ^ (min (1 - (biasN E : Int) - (M : Int) + ((fExp E M a - 1 : Nat) : Int)) (1 - (biasN E : Int) - (M : Int) + ((fExp E M b - 1 : Nat) : Int)) - (1 - (biasN E : Int) - (M : Int))).toNat) (pp _) (key a _ (by omega) (by omega)) (key b _ (by omega) (by omega))

theorem cmp_lt_iff (x y : Int) : (compare x y == Ordering.lt) = decide (x < y) := by
  simp only [compare, compareOfLessAndEq]
  by_cases h1 : x < y
  · simp [h1]
  · by_cases h2 : x = y <;> simp [h1, h2]
theorem cmp_eq_iff (x y : Int) : (compare x y == Ordering.eq) = decide (x = y) := by
  simp only [compare, compareOfLessAndEq]
  by_cases h1 : x < y
  · have : x ≠ y := by omega
    simp [h1, this]
  · by_cases h2 : x = y <;> simp [h1, h2]
theorem cmp_gt_iff (x y : Int) : (compare x y == Ordering.gt) = decide (y < x) := by
  simp only [compare, compareOfLessAndEq]
  by_cases h1 : x < y
  · have : ¬ y < x := by omega
    simp [h1, this]
  · by_cases h2 : x = y
    · have : ¬ y < x := by omega
      simp [h1, h2]
    · have : y < x := by omega
      simp [h1, h2, this]
theorem some_beq {o : Ordering} {c : Ordering} : ((some o) == (some c)) = (o == c) := rfl

/-- the class by comparing with itself -/
theorem self_eq {E M a : Nat} (h : FOk E M) (hc : upC E M a ≠ 4) : (Ieee.Format.order ⟨E, M⟩ a a == some .eq) = true := by
  have hr := upC_range E M a
  by_cases h3 : upC E M a = 3
  · unfold Ieee.Format.order
    rw [read_inf h h3]
    show (some (compare _ _) == some Ordering.eq) = true
    rw [some_beq]
    cases fNeg E M a <;> rfl
  · rw [order_fin h (by omega) (by omega), some_beq, cmp_eq_iff]; simp
theorem self_nan {E M a b : Nat} (h : FOk E M) (hc : upC E M a = 4) : Ieee.Format.order ⟨E, M⟩ a b = none := by
  obtain ⟨t, ht⟩ := read_nan h hc
  unfold Ieee.Format.order
  rw [ht]
  rfl

theorem mul_near {E M x y : Nat} {s t : Bool} {m n : Nat} {i j : Int} (hx : Ieee.Format.read ⟨E, M⟩ x = .number s m i) (hy : Ieee.Format.read ⟨E, M⟩ y = .number t n j) :
    Ieee.Format.mul ⟨E, M⟩ x y = some (Ieee.Format.nearest ⟨E, M⟩ (s ^^ t) (m * n) (i + j)) := by
  unfold Ieee.Format.mul
  rw [hx, hy]
  rfl

/-! ### words by their parts -/
theorem parts {E M : Nat} (neg : Bool) {e f : Nat} (he : e < 2 ^ E) (hf : f < 2 ^ M) :
    fExp E M (sgnd E M neg (e * 2 ^ M + f)) = e ∧ fMan M (sgnd E M neg (e * 2 ^ M + f)) = f ∧ fNeg E M (sgnd E M neg (e * 2 ^ M + f)) = neg := by
  have hx : e * 2 ^ M + f < 2 ^ (E + M) := by
    have h1 : (e + 1) * 2 ^ M ≤ 2 ^ E * 2 ^ M := Nat.mul_le_mul_right _ he
    rw [Nat.add_mul, Nat.one_mul, ← Nat.pow_add] at h1
    omega
  refine ⟨?_, ?_, ?_⟩
  · rw [fExp_sgnd neg hx, Nat.add_comm, Nat.add_mul_div_right _ _ (pp M), Nat.div_eq_of_lt hf, Nat.zero_add]
  · rw [fMan_sgnd, Nat.add_comm, Nat.add_mul_mod_self_right]; exact Nat.mod_eq_of_lt hf
  · unfold fNeg sgnd
    rw [Nat.testBit_eq_decide_div_mod_eq]
    cases neg
    · simp [Nat.div_eq_of_lt hx]
    · simp [Nat.add_div_right _ (pp (E + M)), Nat.div_eq_of_lt hx]
theorem whole {E M a : Nat} (ha : a < 2 ^ (E + M + 1)) : a = sgnd E M (fNeg E M a) (fExp E M a * 2 ^ M + fMan M a) := by
  have e1 : a % 2 ^ (E + M + 1) = a % 2 ^ (E + M) + 2 ^ (E + M) * (a / 2 ^ (E + M) % 2) := by rw [Nat.pow_succ, Nat.mod_mul]
  rw [Nat.mod_eq_of_lt ha] at e1
  have hm : a % 2 ^ (E + M) = fExp E M a * 2 ^ M + fMan M a := mag_eq E M a
  have e5 : fNeg E M a = decide (a / 2 ^ (E + M) % 2 = 1) := by unfold fNeg; rw [Nat.testBit_eq_decide_div_mod_eq]
  unfold sgnd
  rw [← hm, e5]
  rcases Nat.mod_two_eq_zero_or_one (a / 2 ^ (E + M)) with h | h
  · rw [h] at e1; simp [h]; omega
  · rw [h] at e1; simp [h]; omega

theorem andnot_u64 (x c y : Nat) (hx : x < 18446744073709551616) (hc : c < 18446744073709551616) (hy : y < 18446744073709551616) (h : ∀ i, y.testBit i = (x.testBit i && !c.testBit i)) : bits .andNot .u64 (x : Int) (c : Int) = (y : Int) := by
  have e : (BitVec.ofInt 64 (x : Int) &&& ~~~ BitVec.ofInt 64 (c : Int)) = BitVec.ofNat 64 y := by
    apply BitVec.eq_of_getLsbD_eq
    intro i hi
    have h1 : (BitVec.ofInt 64 (x : Int)) = BitVec.ofNat 64 x := BitVec.ofInt_natCast 64 x
    have h2 : (BitVec.ofInt 64 (c : Int)) = BitVec.ofNat 64 c := BitVec.ofInt_natCast 64 c
    rw [h1, h2, BitVec.getLsbD_and, BitVec.getLsbD_not, BitVec.getLsbD_ofNat, BitVec.getLsbD_ofNat, BitVec.getLsbD_ofNat, h i]
    simp only [hi, decide_true, Bool.true_and]
  show IntKind.u64.wrap ((BitVec.ofInt 64 (x : Int) &&& ~~~ BitVec.ofInt 64 (c : Int)).toNat : Int) = (y : Int)
  rw [e, BitVec.toNat_ofNat, Nat.mod_eq_of_lt hy]
  exact wrap64 hy
theorem abs_bits (a : Nat) (ha : a < 18446744073709551616) : bits .andNot .u64 (a : Int) 9223372036854775808 = ((a % 9223372036854775808 : Nat) : Int) := by
  refine andnot_u64 a 9223372036854775808 _ ha (by decide) (by omega) ?_
  intro i
  have e : (9223372036854775808 : Nat) = 2 ^ 63 := by decide
  rw [e, Nat.testBit_mod_two_pow, Nat.testBit_two_pow]
  by_cases h1 : i < 63
  · have : ¬ 63 = i := by omega
    simp [h1, this]
  · by_cases h2 : 63 = i
    · simp [h2]
    · have h3 : a.testBit i = false := Nat.testBit_lt_two_pow (Nat.lt_of_lt_of_le ha (Nat.pow_le_pow_right (n := 2) (i := 64) (by decide) (by omega)))
      simp [h1, h3]
theorem or_sgnd {E M : Nat} (neg : Bool) {x : Nat} (hx : x < 2 ^ (E + M)) : sgnd E M neg x = x ||| (if neg then 2 ^ (E + M) else 0) := by
  unfold sgnd
  cases neg
  · simp
  · simp [or_top hx]
theorem exp_or {M e f : Nat} (hf : f < 2 ^ M) : e * 2 ^ M + f = e <<< M ||| f := by
  rw [Nat.shiftLeft_eq]
  exact (nat_join M (e * 2 ^ M) f (Nat.mul_mod_left _ _) hf).symm
theorem clear_exp (neg : Bool) {e f : Nat} (he : e < 2048) (hf : f < 4503599627370496) : bits .andNot .u64 ((sgnd 11 52 neg (e * 4503599627370496 + f) : Nat) : Int) 9218868437227405312 = ((sgnd 11 52 neg f : Nat) : Int) := by
  have hx : e * 4503599627370496 + f < 9223372036854775808 := by omega
  have hs : ∀ z, z < 9223372036854775808 → sgnd 11 52 neg z < 18446744073709551616 := by
    intro z hz; unfold sgnd
    have : (2 : Nat) ^ (11 + 52) = 9223372036854775808 := by decide
    rw [this]; split <;> omega
  refine andnot_u64 _ 9218868437227405312 _ (hs _ hx) (by decide) (hs _ (by omega)) ?_
  intro i
  rw [or_sgnd (E := 11) (M := 52) neg hx, or_sgnd (E := 11) (M := 52) neg (show f < 2 ^ (11 + 52) from Nat.lt_trans hf (by decide))]
  have hf2 : f < 2 ^ 52 := hf
  have e1 : e * 4503599627370496 + f = e <<< 52 ||| f := exp_or (M := 52) hf2
  have e2 : (9218868437227405312 : Nat) = (2 ^ 11 - 1) <<< 52 := by decide
  rw [e1, e2, Nat.testBit_or, Nat.testBit_or, Nat.testBit_or, Nat.testBit_shiftLeft, Nat.testBit_shiftLeft, Nat.testBit_two_pow_sub_one]
  have hz : ∀ j, 52 ≤ j → f.testBit j = false := fun j hj => Nat.testBit_lt_two_pow (Nat.lt_of_lt_of_le hf2 (Nat.pow_le_pow_right (by decide) hj))
  have he2 : ∀ j, 11 ≤ j → e.testBit j = false := fun j hj => Nat.testBit_lt_two_pow (Nat.lt_of_lt_of_le (show e < 2 ^ 11 from he) (Nat.pow_le_pow_right (by decide) hj))
  have hg : (if neg = true then 2 ^ (11 + 52) else 0).testBit i = (neg && decide (i = 63)) := by
    cases neg
    · simp
    · rw [if_pos rfl, Nat.testBit_two_pow]
      by_cases h : i = 63
      · subst h; rfl
      · have : ¬ 63 = i := by omega
        simp [h, this]
  rw [hg]
  by_cases h1 : i < 52
  · have a1 : ¬ 52 ≤ i := by omega
    have a2 : ¬ i = 63 := by omega
    simp [a1, a2]
  · rw [hz i (by omega)]
    by_cases h2 : i < 63
    · have a2 : ¬ i = 63 := by omega
      have a3 : i - 52 < 11 := by omega
      have a4 : 52 ≤ i := by omega
      simp [a2, a3, a4]
    · rw [he2 (i - 52) (by omega)]
      have a3 : ¬ i - 52 < 11 := by omega
      simp [a3]
theorem put_exp (neg : Bool) {e f : Nat} (he : e < 2048) (hf : f < 4503599627370496) : bits .or .u64 ((sgnd 11 52 neg f : Nat) : Int) ((e * 4503599627370496 : Nat) : Int) = ((sgnd 11 52 neg (e * 4503599627370496 + f) : Nat) : Int) := by
  have hx : e * 4503599627370496 + f < 9223372036854775808 := by omega
  have hs : sgnd 11 52 neg f < 18446744073709551616 := by
    unfold sgnd
    have : (2 : Nat) ^ (11 + 52) = 9223372036854775808 := by decide
    rw [this]; split <;> omega
  have e1 : e * 4503599627370496 + f = e <<< 52 ||| f := exp_or (M := 52) hf
  have e2 : e * 4503599627370496 = e <<< 52 := by rw [Nat.shiftLeft_eq]
  have k : bits .or .u64 ((sgnd 11 52 neg f : Nat) : Int) ((e * 4503599627370496 : Nat) : Int) = ((sgnd 11 52 neg f ||| e * 4503599627370496 : Nat) : Int) := u64_or_nat _ _ hs (Nat.lt_of_le_of_lt (Nat.mul_le_mul_right _ (Nat.le_of_lt_succ he)) (by decide))
  rw [k]
  congr 1
  rw [or_sgnd (E := 11) (M := 52) neg hx, or_sgnd (E := 11) (M := 52) neg (show f < 2 ^ (11 + 52) from Nat.lt_trans hf (by decide)), e1, e2]
  rw [Nat.or_comm, ← Nat.or_assoc]

end Go.Proofs.Ygcoaj
