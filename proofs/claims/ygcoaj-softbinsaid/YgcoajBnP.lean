/-
  PLAIN: soft's sum, product and quotient round as exact's.
-/
import Derived.Test.YgcoajBn3
set_option linter.unusedVariables false
set_option linter.unusedSimpArgs false
namespace Go.Proofs.Ygcoaj
open Go.RowKit

/-- 64 leading bits, the lowest set for anything below them, round as the whole -/
theorem jam64 {E M mo : Nat} {neg : Bool} {S a1 b1 : Nat} {ea : Int} (h : FOk E M) (hS : S ≠ 0) (hS2 : S < 18446744073709551616 * 18446744073709551616) (he : (b1 : Int) - a1 = ea) :
    rfN E M mo neg (S * 2 ^ b1) (2 ^ a1) = rpN E M mo neg (ea + 64 - ((128 - bitLen S : Nat) : Int)) (jamQ (S * 2 ^ (128 - bitLen S)) 18446744073709551616) := by
  have hb : bitLen S ≤ 128 := bitLen_le_of_lt (n := 128) hS2
  have hle := bitLen_le hS
  have hpos := bitLen_pos hS
  have hM := h.m52
  obtain ⟨k, hk⟩ : ∃ k, k = 128 - bitLen S := ⟨_, rfl⟩
  have hJ := jamQ_lt hS hS2
  rw [← hk] at hJ ⊢
  obtain ⟨x, hx⟩ : ∃ x : Int, x = ea + 64 - (k : Int) := ⟨_, rfl⟩
  rw [← hx]
  have e0 : ((x.toNat : Nat) : Int) - ((-x).toNat : Nat) = x := by omega
  rw [(rp_rf (n := jamQ (S * 2 ^ k) 18446744073709551616 * 2 ^ x.toNat) (d := 2 ^ (-x).toNat) (a0 := (-x).toNat) (b0 := x.toNat) h hJ (Nat.ne_of_gt (pp _)) e0 (by grind)).1]
  refine sticky (N := S * 2 ^ k) (D := 18446744073709551616) h (Nat.ne_of_gt (pp _)) (by decide) e0 ?_ ?_
  · have e1 : S * 2 ^ b1 * 18446744073709551616 * 2 ^ (-x).toNat = S * 2 ^ (b1 + 64 + (-x).toNat) := by rw [Nat.pow_add, Nat.pow_add]; grind
    have e2 : 2 ^ a1 * (S * 2 ^ k) * 2 ^ x.toNat = S * 2 ^ (a1 + k + x.toNat) := by rw [Nat.pow_add, Nat.pow_add]; grind
    rw [e1, e2]
    congr 2
    omega
  · refine Or.inr ?_
    rw [Nat.le_div_iff_mul_le (by decide)]
    have e1 : 2 ^ (bitLen S - 1) * 2 ^ k = 2 ^ 127 := by rw [← Nat.pow_add]; congr 1; omega
    have e2 : 2 ^ 127 ≤ S * 2 ^ k := by rw [← e1]; exact Nat.mul_le_mul_right _ hle
    have e3 : 2 ^ (M + 2) ≤ 2 ^ 54 := Nat.pow_le_pow_right (by decide) (by omega)
    refine Nat.le_trans (Nat.mul_le_mul_right _ e3) (Nat.le_trans ?_ e2)
    decide

theorem jam_plus {A B P : Nat} (hP : 0 < P) (hA : A % 2 = 0) : jamQ (A * P + B) P = A + jamQ B P := by
  have e1 : (A * P + B) / P = A + B / P := by rw [Nat.add_comm, Nat.add_mul_div_right _ _ hP, Nat.add_comm]
  have e2 : (A * P + B) % P = B % P := by rw [Nat.add_comm, Nat.add_mul_mod_self_right]
  unfold jamQ
  rw [e1, e2]
  split <;> omega
theorem jam_minus {A B P : Nat} (hP : 0 < P) (hA : A % 2 = 0) (hle : B ≤ A * P) : jamQ (A * P - B) P = A - jamQ B P := by
  obtain ⟨q, hq⟩ : ∃ q, q = B / P := ⟨_, rfl⟩
  obtain ⟨t, ht⟩ : ∃ t, t = B % P := ⟨_, rfl⟩
  have hB : B = P * q + t := by rw [hq, ht]; exact (Nat.div_add_mod B P).symm
  have htP : t < P := by rw [ht]; exact Nat.mod_lt _ hP
  have hqA : q ≤ A := by
    have h1 : P * q ≤ P * A := by rw [Nat.mul_comm P A]; omega
    exact Nat.le_of_mul_le_mul_left h1 hP
  by_cases h0 : t = 0
  · have e : A * P - B = (A - q) * P := by rw [hB, h0, Nat.add_zero, Nat.mul_comm P q, Nat.sub_mul]
    unfold jamQ
    rw [e, if_pos (Nat.mul_mod_left _ _), Nat.mul_div_cancel _ hP, ← ht, if_pos h0, ← hq]
  · have hq1 : q + 1 ≤ A := by
      refine Nat.lt_of_le_of_ne hqA ?_
      rintro rfl
      rw [Nat.mul_comm] at hle
      omega
    obtain ⟨z, hz⟩ : ∃ z, A = q + 1 + z := ⟨A - (q + 1), by omega⟩
    have e : A * P - B = z * P + (P - t) := by
      rw [hz, hB, Nat.add_mul, Nat.add_mul, Nat.one_mul, Nat.mul_comm P q]
      omega
    have e1 : (A * P - B) / P = z := by
      rw [e, Nat.add_comm, Nat.add_mul_div_right _ _ hP, Nat.div_eq_of_lt (by omega), Nat.zero_add]
    have e2 : (A * P - B) % P = P - t := by
      rw [e, Nat.add_comm, Nat.add_mul_mod_self_right]
      exact Nat.mod_eq_of_lt (by omega)
    unfold jamQ
    rw [e1, e2, if_neg (by omega), ← ht, if_neg h0, ← hq]
    omega
theorem jam_far {B g : Nat} (hB : B ≠ 0) (hB2 : B < 2 ^ 127) (hg : 255 ≤ g) : jamQ B (2 ^ g) = 1 := by
  have h1 : 2 ^ 127 ≤ 2 ^ g := Nat.pow_le_pow_right (by decide) (by omega)
  unfold jamQ
  rw [Nat.mod_eq_of_lt (by omega), if_neg hB, Nat.div_eq_of_lt (by omega)]

/-- the law of the sum of two ordered numbers -/
theorem sum_law {E M mo : Nat} {na nb : Bool} {ea eb : Int} {A B x y d : Nat} (h : FOk E M) (hA1 : 2 ^ 126 ≤ A) (hA2 : A < 2 ^ 127) (hAe : A % 2 = 0) (hB1 : 2 ^ 126 ≤ B) (hB2 : B < 2 ^ 127) (hBe : B % 2 ^ 74 = 0) (hd : d ≠ 0)
    (hx : ∀ a b : Nat, (b : Int) - a = ea → x * 2 ^ a = d * A * 2 ^ b) (hy : ∀ a b : Nat, (b : Int) - a = eb → y * 2 ^ a = d * B * 2 ^ b) (hge : eb ≤ ea) (hord : eb < ea ∨ B ≤ A) :
    y ≤ x ∧ smO E M mo na ea A nb eb B = if (if na = nb then x + y else x - y) = 0 then sgnd E M (decide (mo = 4)) 0 else rfN E M mo na (if na = nb then x + y else x - y) d := by
  have hM := h.m52
  obtain ⟨g, hg⟩ : ∃ g : Nat, (g : Int) = ea - eb := ⟨(ea - eb).toNat, by omega⟩
  have hP : 0 < 2 ^ g := pp g
  -- y ≤ x
  have hBA : B ≤ A * 2 ^ g := by
    rcases hord with hc | hc
    · have h1 : 2 ^ 1 ≤ 2 ^ g := Nat.pow_le_pow_right (by decide) (by omega)
      have h2 := Nat.mul_le_mul_left A h1
      omega
    · have h2 := Nat.mul_le_mul_left A hP
      omega
  have hx0 := hx (-eb).toNat (eb.toNat + g) (by omega)
  have hy0 := hy (-eb).toNat eb.toNat (by omega)
  have hx1 : x * 2 ^ (-eb).toNat = d * (A * 2 ^ g) * 2 ^ eb.toNat := by rw [hx0, Nat.pow_add]; grind
  have hyx : y ≤ x := by
    refine Nat.le_of_mul_le_mul_right ?_ (pp (-eb).toNat)
    rw [hx1, hy0]
    exact Nat.mul_le_mul_right _ (Nat.mul_le_mul_left _ hBA)
  refine ⟨hyx, ?_⟩
  obtain ⟨T, hT⟩ : ∃ T, T = if na = nb then A * 2 ^ g + B else A * 2 ^ g - B := ⟨_, rfl⟩
  obtain ⟨num, hnum⟩ : ∃ num, num = if na = nb then x + y else x - y := ⟨_, rfl⟩
  rw [← hnum]
  have hnT : num * 2 ^ (-eb).toNat = d * T * 2 ^ eb.toNat := by
    rw [hnum, hT]
    split
    · rw [Nat.add_mul, hx1, hy0, ← Nat.add_mul, ← Nat.mul_add]
    · rw [Nat.sub_mul, hx1, hy0, ← Nat.sub_mul, ← Nat.mul_sub]
  have hsB : smB (min (ea - eb) 255).toNat B = jamQ B (2 ^ g) := by
    unfold smB
    by_cases hc : g ≤ 255
    · rw [show (min (ea - eb) 255).toNat = g by omega]
    · rw [show (min (ea - eb) 255).toNat = 255 by omega, jam_far (by omega) hB2 (Nat.le_refl _), jam_far (by omega) hB2 (by omega)]
  have hST : smT na nb A (jamQ B (2 ^ g)) = jamQ T (2 ^ g) := by
    rw [hT]
    unfold smT
    split
    · rw [jam_plus hP hAe]
    · rw [jam_minus hP hAe hBA]
  obtain ⟨S, hS⟩ : ∃ S, S = jamQ T (2 ^ g) := ⟨_, rfl⟩
  unfold smO
  rw [hsB, hST, ← hS]
  -- enough bits
  have hq : T % 2 ^ g = 0 ∨ 2 ^ (M + 2) ≤ T / 2 ^ g := by
    by_cases hb0 : B % 2 ^ g = 0
    · refine Or.inl ?_
      obtain ⟨c, hc⟩ := Nat.dvd_of_mod_eq_zero hb0
      rw [hT, hc]
      split
      · rw [Nat.mul_comm A, ← Nat.mul_add]; exact Nat.mul_mod_right _ _
      · rw [Nat.mul_comm A, ← Nat.mul_sub]; exact Nat.mul_mod_right _ _
    · refine Or.inr ?_
      have hg75 : 75 ≤ g := by
        rcases Nat.lt_or_ge g 75 with hc | hc
        · exfalso
          apply hb0
          have hdv : 2 ^ g ∣ 2 ^ 74 := Nat.pow_dvd_pow 2 (by omega)
          exact Nat.mod_eq_zero_of_dvd (Nat.dvd_trans hdv (Nat.dvd_of_mod_eq_zero hBe))
        · exact hc
      have hBP : B < 2 ^ 52 * 2 ^ g := by
        have h1 : 2 ^ 52 * 2 ^ 75 ≤ 2 ^ 52 * 2 ^ g := Nat.mul_le_mul_left _ (Nat.pow_le_pow_right (by decide) hg75)
        have h2 : 2 ^ 52 * 2 ^ 75 = 2 ^ 127 := by decide
        omega
      rw [Nat.le_div_iff_mul_le hP]
      have e3 : 2 ^ (M + 2) ≤ 2 ^ 54 := Nat.pow_le_pow_right (by decide) (by omega)
      have h3 : 2 ^ (M + 2) * 2 ^ g ≤ 2 ^ 54 * 2 ^ g := Nat.mul_le_mul_right _ e3
      have h4 : 2 ^ 126 * 2 ^ g ≤ A * 2 ^ g := Nat.mul_le_mul_right _ hA1
      have h5 : (2 ^ 54 + 2 ^ 52) * 2 ^ g ≤ 2 ^ 126 * 2 ^ g := Nat.mul_le_mul_right _ (by decide)
      rw [Nat.add_mul] at h5
      rw [hT]
      split <;> omega
  have hS0 : S = 0 ↔ num = 0 := by
    have hTn : num = 0 ↔ T = 0 := by
      constructor
      · intro h0
        rw [h0, Nat.zero_mul] at hnT
        rcases Nat.mul_eq_zero.1 hnT.symm with hc | hc
        · rcases Nat.mul_eq_zero.1 hc with hc | hc
          · exact absurd hc hd
          · exact hc
        · exact absurd hc (Nat.ne_of_gt (pp _))
      · intro h0
        rw [h0, Nat.mul_zero, Nat.zero_mul] at hnT
        rcases Nat.mul_eq_zero.1 hnT with hc | hc
        · exact hc
        · exact absurd hc (Nat.ne_of_gt (pp _))
    rw [hTn, hS]
    constructor
    · intro h0
      unfold jamQ at h0
      split at h0
      · rename_i hm
        have := Nat.div_add_mod T (2 ^ g)
        rw [h0, hm] at this
        simpa using this.symm
      · rename_i hm
        rcases hq with hc | hc
        · exact absurd hc hm
        · have := pp (M + 2)
          omega
    · intro h0
      rw [h0]; unfold jamQ; simp
  unfold smR
  by_cases hz : num = 0
  · rw [if_pos (hS0.2 hz), if_pos hz]
  · have hSne : S ≠ 0 := fun hc => hz (hS0.1 hc)
    rw [if_neg hSne, if_neg hz]
    have hSlt : S < 18446744073709551616 * 18446744073709551616 := by
      rw [hS, ← hST]
      have hj : jamQ B (2 ^ g) ≤ B + 1 := by
        unfold jamQ
        have := Nat.div_le_self B (2 ^ g)
        split <;> omega
      unfold smT
      split <;> omega
    have e0 : ((ea.toNat : Nat) : Int) - ((-ea).toNat : Nat) = ea := by omega
    rw [← jam64 (a1 := (-ea).toNat) (b1 := ea.toNat) h hSne hSlt e0, hS]
    refine (sticky (N := T) (D := 2 ^ g) h hd (Nat.ne_of_gt hP) e0 ?_ hq).symm
    have e1 : num * 2 ^ g * 2 ^ (-ea).toNat = num * 2 ^ (g + (-ea).toNat) := by rw [Nat.pow_add, Nat.mul_assoc]
    rw [e1]
    exact sp_eq (a := (-eb).toNat) (b := eb.toNat) (m := 0) (e := 0) (by omega) hnT

end Go.Proofs.Ygcoaj
