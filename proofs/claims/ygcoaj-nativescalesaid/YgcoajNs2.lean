/-
  WALKS: math.ldexp, math.Ldexp, math.Ilogb; native.ScaleB64, native.LogB64.
-/
import Derived.Test.YgcoajNs1
set_option linter.unusedVariables false
set_option linter.unusedSimpArgs false
namespace Go.Proofs.Ygcoaj
open Go.RowKit

theorem and_top (x : Nat) (hx : x < 18446744073709551616) : bits .and .u64 (x : Int) 9223372036854775808 = ((sgnd 11 52 (fNeg 11 52 x) 0 : Nat) : Int) := by
  have e := bits_and_u64_nat x 9223372036854775808 hx (by decide)
  refine Eq.trans e ?_
  congr 1
  have e2 : (9223372036854775808 : Nat) = 2 ^ 63 := by decide
  rw [e2]
  unfold sgnd fNeg
  show x &&& 2 ^ 63 = if x.testBit 63 = true then 0 + 2 ^ 63 else 0
  apply Nat.eq_of_testBit_eq
  intro i
  rw [Nat.testBit_and, Nat.testBit_two_pow]
  by_cases hi : 63 = i
  · subst hi
    cases x.testBit 63
    · simp
    · rw [if_pos rfl, Nat.zero_add, Nat.testBit_two_pow_self]; simp
  · simp only [hi, decide_false, Bool.and_false]
    cases x.testBit 63
    · simp
    · rw [if_pos rfl, Nat.zero_add, Nat.testBit_two_pow]; simp [hi]
set_option maxRecDepth 100000 in
theorem copysign_ok (x : Nat) (hx : x < 18446744073709551616) (w : World) : Calls Oajg.prog 202 #[.float .f64 0, .float .f64 x] w fun e w' => e = .returned (.float .f64 (sgnd 11 52 (fNeg 11 52 x) 0)) ∧ w' = w := by
  have h1 := run178
  have h2 := run138
  have k1 : bits .andNot .u64 0 9223372036854775808 = 0 := by decide
  have k2 := and_top x hx
  have hs : sgnd 11 52 (fNeg 11 52 x) 0 < 18446744073709551616 := by unfold sgnd; split <;> decide
  generalize sgnd 11 52 (fNeg 11 52 x) 0 = S at *
  have k3 : bits .or .u64 0 (S : Int) = (S : Int) := by
    have e : bits .or .u64 ((0 : Nat) : Int) (S : Int) = ((0 ||| S : Nat) : Int) := u64_or_nat 0 S (by decide) hs
    rw [Nat.zero_or] at e
    exact e
  go_enter Oajg.func202, Oajg.ntmps202
  go_wp2_with fail
  go_ret
  exact ⟨rfl, rfl⟩

/-! ### plain: the scaled number -/
theorem sc_low {E M a : Nat} {n : Int} (h : FOk E M) (ho : lbOk E M a = true) : ∀ x y : Nat, (y : Int) - x = upE E M a + (M : Int) + scK n → scDen E M a n * 2 ^ y ≤ scNum E M a n * 2 ^ x := by
  intro x y hxy
  have := v_low h ho ((scK n).toNat + x) ((-scK n).toNat + y) (by omega)
  unfold scNum scDen
  rw [mulpow, mulpow] at this
  exact this
theorem sc_up {E M a : Nat} {n : Int} (h : FOk E M) (ho : lbOk E M a = true) : ∀ x y : Nat, (y : Int) - x = upE E M a + (M : Int) + scK n + 1 → scNum E M a n * 2 ^ x < scDen E M a n * 2 ^ y := by
  intro x y hxy
  have := v_up h ho ((scK n).toNat + x) ((-scK n).toNat + y) (by omega)
  unfold scNum scDen
  rw [mulpow, mulpow] at this
  exact this
theorem sc_ne {E M a : Nat} {n : Int} (h : FOk E M) (ho : lbOk E M a = true) : scNum E M a n ≠ 0 := Nat.mul_ne_zero (v_ne h ho) (Nat.ne_of_gt (pp _))
theorem sc_true {E M a : Nat} {n : Int} (h : FOk E M) (ho : lbOk E M a = true) : trueR (scNum E M a n) (scDen E M a n) = upE E M a + (M : Int) + scK n := by
  have hn := sc_ne (n := n) h ho
  have hd := scDen_ne E M a n
  have k1 := pow_order hd (sc_low (n := n) h ho) (true_up hn hd)
  have k2 := pow_order hd (true_low hn hd) (sc_up (n := n) h ho)
  omega
/-- below half of the least: zero -/
theorem rf_zero {E M : Nat} {neg : Bool} {n d : Nat} (h : FOk E M) (hn : n ≠ 0) (hd : d ≠ 0) (hun : trueR n d ≤ 1 - (biasN E : Int) - (M : Int) - 2) : rfN E M 0 neg n d = sgnd E M neg 0 := by
  have hb1 := biasN_pos h.e2
  have hrf := rfR_true hb1 hn hd
  have e2 : rfE E n d = 1 - (biasN E : Int) := by unfold rfE; rw [hrf]; omega
  obtain ⟨K, hK⟩ : ∃ K, K = (M : Int) - (1 - (biasN E : Int)) := ⟨_, rfl⟩
  have hlt : n * 2 ^ K.toNat * 2 < d * 2 ^ (-K).toNat := by
    have h1 := true_up hn hd (K.toNat + 1 + (-(trueR n d + 1) - K - 1).toNat) (-K).toNat (by omega)
    rw [mulpow, mulpow, Nat.pow_one] at h1
    exact Nat.lt_of_le_of_lt (Nat.le_mul_of_pos_right _ (pp _)) h1
  have hq : n * 2 ^ K.toNat / (d * 2 ^ (-K).toNat) = 0 := Nat.div_eq_of_lt (by omega)
  have hr : n * 2 ^ K.toNat % (d * 2 ^ (-K).toNat) = n * 2 ^ K.toNat := Nat.mod_eq_of_lt (by omega)
  have hhf : hfX (n * 2 ^ K.toNat) (d * 2 ^ (-K).toNat) = -1 := by unfold hfX; rw [hr]; exact cmpZ_lt hlt
  have htop : rfTop 0 neg n d K = 0 := by
    unfold rfTop rzN rdX
    rw [hq, hhf]; simp
  unfold rfN
  rw [if_neg hn, e2, if_neg (by omega), ← hK, htop]
  unfold pkN
  rw [show (1 - (biasN E : Int) - (1 - (biasN E : Int))).toNat = 0 by omega]
  have : 0 < infN E M := by
    unfold infN
    have hE : 4 ≤ 2 ^ E := Nat.pow_le_pow_right (n := 2) (i := 2) (by decide) h.e2
    exact Nat.mul_pos (by omega) (pp _)
  rw [if_neg (by omega)]
  simp

/-- the product of a power of two and the moved-up significand -/
theorem scaled_mul {a y c : Nat} {n j : Int} {e : Nat} (ho : lbOk 11 52 a = true) (he1 : 1 ≤ e) (he2 : e ≤ 2046) (hy : y = sgnd 11 52 (fNeg 11 52 a) (e * 4503599627370496 + nrM a)) (hc : Ieee.Format.read ⟨11, 52⟩ c = .number false 4503599627370496 j) (hk : scK n = n)
    (hje : j + 52 + ((e : Int) - 1075) = upE 11 52 a + n) : FloatKind.f64.format.mul c y = some (rfN 11 52 0 (fNeg 11 52 a) (scNum 11 52 a n) (scDen 11 52 a n)) := by
  obtain ⟨f1, f2, f3, f4, f5⟩ := nr_facts ho
  obtain ⟨p1, p2, p3⟩ := parts (E := 11) (M := 52) (fNeg 11 52 a) (e := e) (f := nrM a) (Nat.lt_of_le_of_lt he2 (by decide)) f3
  rw [p52, ← hy] at p1 p2 p3
  have hcl : upC 11 52 y = 2 := by
    unfold upC
    rw [p1, if_neg (by show ¬ e = 2047; omega), if_neg (by omega)]
  have hry := read_fin f64ok (Or.inr (Or.inr hcl))
  rw [p1, p2, p3, if_neg (by omega), bias11, p52, Nat.add_comm 4503599627370496, f5] at hry
  show Ieee.Format.mul ⟨11, 52⟩ c y = _
  rw [mul_near hc hry, near_rf f64ok, Bool.false_xor]
  congr 1
  obtain ⟨q, hq⟩ : ∃ q : Int, q = j + (1 - ((1023 : Nat) : Int) - ((52 : Nat) : Int) + ((e - 1 : Nat) : Int)) := ⟨_, rfl⟩
  rw [← hq]
  have hq2 : q + 52 = upE 11 52 a + n := by omega
  refine rf_ratio f64ok (Nat.ne_of_gt (pp _)) (scDen_ne _ _ _ _) ?_
  unfold scNum scDen vNum vDen
  rw [hk, ← p52]
  have e1 : 2 ^ 52 * upM 11 52 a * 2 ^ q.toNat * (2 ^ (-upE 11 52 a).toNat * 2 ^ (-n).toNat) = upM 11 52 a * 2 ^ (52 + q.toNat + (-upE 11 52 a).toNat + (-n).toNat) := by
    rw [Nat.pow_add, Nat.pow_add, Nat.pow_add]; grind
  have e2 : upM 11 52 a * 2 ^ (upE 11 52 a).toNat * 2 ^ n.toNat * 2 ^ (-q).toNat = upM 11 52 a * 2 ^ ((upE 11 52 a).toNat + n.toNat + (-q).toNat) := by
    rw [Nat.pow_add, Nat.pow_add]; grind
  rw [e1, e2]
  have hxx : 52 + q.toNat + (-upE 11 52 a).toNat + (-n).toNat = (upE 11 52 a).toNat + n.toNat + (-q).toNat := by omega
  rw [hxx]

theorem neg_lt {x : Nat} (hx : lbOk 11 52 x = true) : (FloatKind.f64.format.order x 0 == some .lt) = fNeg 11 52 x := by
  have ho := hx
  unfold lbOk at ho
  simp only [Bool.or_eq_true, decide_eq_true_eq] at ho
  show (Ieee.Format.order ⟨11, 52⟩ x 0 == some .lt) = _
  rw [order_fin f64ok (by omega) (by decide), some_beq, cmp_lt_iff]
  have hs : sgv 11 52 0 = 0 := by decide
  rw [hs]
  have hz : sVal 11 52 x ≠ 0 := by
    intro hc
    have := sVal_zero.1 hc
    rw [mag_eq] at this
    rcases ho with h1 | h2
    · have := (upC_one h1).2; omega
    · have h3 := (upC_two h2).1
      have h4 : 0 < fExp 11 52 x * 2 ^ 52 := Nat.mul_pos (by omega) (pp _)
      omega
  unfold sgv
  cases fNeg 11 52 x
  · have : ¬ (sVal 11 52 x : Int) < 0 := by omega
    simp [this]
  · have : -(sVal 11 52 x : Int) < 0 := by omega
    simp; omega
theorem eq_zero {x : Nat} : (FloatKind.f64.format.order x 0 == some .eq) = decide (upC 11 52 x = 0) := by
  show (Ieee.Format.order ⟨11, 52⟩ x 0 == some .eq) = _
  have hr := upC_range 11 52 x
  by_cases h4 : upC 11 52 x = 4
  · rw [self_nan f64ok h4]; simp [h4]
  · by_cases h3 : upC 11 52 x = 3
    · unfold Ieee.Format.order
      rw [read_inf f64ok h3, show Ieee.Format.read ⟨11, 52⟩ 0 = .number false 0 (-1074) from by decide]
      cases fNeg 11 52 x <;> simp [h3, Ieee.Datum.order]
    · rw [order_fin f64ok (by omega) (by decide), some_beq, cmp_eq_iff]
      have hs : sgv 11 52 0 = 0 := by decide
      rw [hs]
      have hz : sVal 11 52 x = 0 ↔ upC 11 52 x = 0 := by
        rw [sVal_zero, mag_eq]
        constructor
        · intro hc
          have h1 : fMan 52 x = 0 := by omega
          have h2 : fExp 11 52 x = 0 := by
            rcases Nat.eq_zero_or_pos (fExp 11 52 x) with hh | hh
            · exact hh
            · have h4 : 0 < fExp 11 52 x * 2 ^ 52 := Nat.mul_pos hh (pp _)
              omega
          unfold upC
          rw [h1, h2, if_neg (by decide), if_pos rfl, if_pos rfl]
        · intro hc
          obtain ⟨h1, h2⟩ := upC_zero hc
          rw [h1, h2, Nat.zero_mul]
      have hw : sgv 11 52 x = 0 ↔ sVal 11 52 x = 0 := by unfold sgv; split <;> omega
      by_cases hc : upC 11 52 x = 0
      · simp [hc, hw.2 (hz.2 hc)]
      · have : ¬ sgv 11 52 x = 0 := fun e => hc (hz.1 (hw.1 e))
        simp [hc, this]

end Go.Proofs.Ygcoaj
