/-
  PLAIN and CONTRACTS: scaling a binary32 by way of binary64.
-/
import Derived.Test.YgcoajNs5
set_option linter.unusedVariables false
set_option linter.unusedSimpArgs false
namespace Go.Proofs.Ygcoaj
open Go.RowKit

/-! ### a word of class 2 by its parts -/
theorem lin2 (D N : Nat) (h : 4503599627370496 ≤ N) : (D + 1) * 4503599627370496 + (N - 4503599627370496) = D * 4503599627370496 + N := by omega
theorem norm_parts {neg : Bool} {D N : Nat} (hD : D ≤ 2045) (hN1 : 4503599627370496 ≤ N) (hN2 : N < 9007199254740992) :
    upC 11 52 (sgnd 11 52 neg (D * 2 ^ 52 + N)) = 2 ∧ fNeg 11 52 (sgnd 11 52 neg (D * 2 ^ 52 + N)) = neg ∧ upE 11 52 (sgnd 11 52 neg (D * 2 ^ 52 + N)) = (D : Int) - 1074 ∧ upM 11 52 (sgnd 11 52 neg (D * 2 ^ 52 + N)) = N ∧ mag 11 52 (sgnd 11 52 neg (D * 2 ^ 52 + N)) = D * 4503599627370496 + N := by
  have e : D * 2 ^ 52 + N = (D + 1) * 2 ^ 52 + (N - 4503599627370496) := by
    rw [p52]; exact (lin2 D N hN1).symm
  obtain ⟨p1, p2, p3⟩ := parts (E := 11) (M := 52) neg (e := D + 1) (f := N - 4503599627370496) (Nat.lt_of_le_of_lt (show D + 1 ≤ 2046 by omega) (by decide)) (by rw [p52]; omega)
  rw [← e] at p1 p2 p3
  have hc : upC 11 52 (sgnd 11 52 neg (D * 2 ^ 52 + N)) = 2 := by
    unfold upC
    rw [p1, if_neg (by show ¬ D + 1 = 2047; omega), if_neg (by omega)]
  have n1 : ¬ upC 11 52 (sgnd 11 52 neg (D * 2 ^ 52 + N)) = 1 := by omega
  refine ⟨hc, p3, ?_, ?_, ?_⟩
  · unfold upE
    rw [if_neg n1, if_pos hc, p1, bias11]; omega
  · unfold upM
    rw [if_neg n1, if_pos hc, p2, p52]; omega
  · rw [mag_eq, p1, p2, p52]; exact lin2 D N hN1

/-- rounding to binary64 what it has -/
theorem rf64_exact {neg : Bool} {n d N : Nat} {R : Int} (hd : d ≠ 0) (hR1 : -1022 ≤ R) (hR2 : R ≤ 1023) (hN1 : 4503599627370496 ≤ N) (hN2 : N < 9007199254740992) (hv : ∀ a b : Nat, (b : Int) - a = R - 52 → n * 2 ^ a = d * N * 2 ^ b) :
    ∃ D : Nat, (D : Int) = R + 1022 ∧ rfN 11 52 0 neg n d = sgnd 11 52 neg (D * 2 ^ 52 + N) := by
  refine ⟨(R + 1022).toNat, by omega, ?_⟩
  refine rf_exact f64ok hd (by rw [p52]; exact hN1) (by show N < 2 ^ 53; have : (2 : Nat) ^ 53 = 9007199254740992 := by decide
                                                        omega) ?_ ?_
  · intro a b hab
    rw [bias11] at hab
    exact hv a b (by omega)
  · have : infN 11 52 = 9218868437227405312 := by decide
    rw [this, p52]
    omega

/-! ### Widen -/
theorem p29 : (2 : Nat) ^ 29 = 536870912 := by decide
theorem p23 : (2 : Nat) ^ 23 = 8388608 := by decide
theorem wd_range {b : Nat} (ho : lbOk 8 23 b = true) : -149 ≤ upE 8 23 b + 23 ∧ upE 8 23 b + 23 ≤ 127 ∧ 8388608 ≤ upM 8 23 b ∧ upM 8 23 b ≤ 16777215 := by
  obtain ⟨v1, v2⟩ := v_expS f32ok ho
  rw [bias8] at v1 v2
  obtain ⟨g1, g2⟩ := upM_norm f32ok ho
  have g1' : 8388608 ≤ upM 8 23 b := g1
  have g2' : upM 8 23 b < 16777216 := g2
  omega
theorem lbOk_fin {E M b : Nat} (ho : lbOk E M b = true) : upC E M b ≠ 3 ∧ upC E M b ≠ 4 ∧ upC E M b ≠ 0 := by
  unfold lbOk at ho
  simp only [Bool.or_eq_true, decide_eq_true_eq] at ho
  omega
theorem wd_fin {b : Nat} (ho : lbOk 8 23 b = true) : ∃ D : Nat, (D : Int) = upE 8 23 b + 23 + 1022 ∧ wdN b = sgnd 11 52 (fNeg 8 23 b) (D * 2 ^ 52 + upM 8 23 b * 536870912) := by
  obtain ⟨r1, r2, r3, r4⟩ := wd_range ho
  obtain ⟨c3, c4, _⟩ := lbOk_fin ho
  have e : wdN b = rfN 11 52 0 (fNeg 8 23 b) (vNum 8 23 b) (vDen 8 23 b) := by unfold wdN; rw [if_neg c4, if_neg c3]
  rw [e]
  refine rf64_exact (vDen_ne _ _ _) (by omega) (by omega) (by omega) (by omega) ?_
  intro x y hxy
  unfold vNum vDen
  rw [← p29]
  have e1 : upM 8 23 b * 2 ^ (upE 8 23 b).toNat * 2 ^ x = upM 8 23 b * 2 ^ ((upE 8 23 b).toNat + x) := by rw [Nat.pow_add, Nat.mul_assoc]
  have e2 : 2 ^ (-upE 8 23 b).toNat * (upM 8 23 b * 2 ^ 29) * 2 ^ y = upM 8 23 b * 2 ^ ((-upE 8 23 b).toNat + 29 + y) := by rw [Nat.pow_add, Nat.pow_add]; grind
  rw [e1, e2]
  have hxx : (upE 8 23 b).toNat + x = (-upE 8 23 b).toNat + 29 + y := by omega
  rw [hxx]
theorem wd_facts {b : Nat} (ho : lbOk 8 23 b = true) : upC 11 52 (wdN b) = 2 ∧ fNeg 11 52 (wdN b) = fNeg 8 23 b ∧ upE 11 52 (wdN b) = upE 8 23 b + 23 - 52 ∧ upM 11 52 (wdN b) = upM 8 23 b * 536870912 := by
  obtain ⟨r1, r2, r3, r4⟩ := wd_range ho
  obtain ⟨D, hD, hw⟩ := wd_fin ho
  obtain ⟨p1, p2, p3, p4, _⟩ := norm_parts (neg := fNeg 8 23 b) (D := D) (N := upM 8 23 b * 536870912) (by omega) (by omega) (by omega)
  rw [← hw] at p1 p2 p3 p4
  exact ⟨p1, p2, by rw [p3]; omega, p4⟩
theorem lbOk8_not {b : Nat} (ho : lbOk 8 23 b = false) : upC 8 23 b = 0 ∨ upC 8 23 b = 3 ∨ upC 8 23 b = 4 := by
  unfold lbOk at ho
  simp only [Bool.or_eq_false_iff, decide_eq_false_iff_not] at ho
  have := upC_range 8 23 b
  omega
theorem sg_zero (neg : Bool) : upC 11 52 (sgnd 11 52 neg 0) = 0 ∧ fNeg 11 52 (sgnd 11 52 neg 0) = neg ∧ upC 8 23 (sgnd 8 23 neg 0) = 0 := by cases neg <;> decide
theorem sg_infc (neg : Bool) : upC 11 52 (sgnd 11 52 neg (infN 11 52)) = 3 ∧ fNeg 11 52 (sgnd 11 52 neg (infN 11 52)) = neg := by cases neg <;> decide
theorem wd_zero {b : Nat} (h0 : upC 8 23 b = 0) : wdN b = sgnd 11 52 (fNeg 8 23 b) 0 := by
  have ho : lbOk 8 23 b = false := by unfold lbOk; simp [h0]
  unfold wdN
  rw [if_neg (by omega), if_neg (by omega)]
  unfold rfN
  rw [if_pos (by unfold vNum; rw [upM_zero ho, Nat.zero_mul])]
theorem wd_inf {b : Nat} (h3 : upC 8 23 b = 3) : wdN b = sgnd 11 52 (fNeg 8 23 b) (infN 11 52) := by unfold wdN; rw [if_neg (by omega), if_pos h3]
theorem wd_nan {b : Nat} (h4 : upC 8 23 b = 4) : wdN b = nanN 11 52 := by unfold wdN; rw [if_pos h4]
theorem wd_class {b : Nat} (h3 : upC 8 23 b ≠ 3) (h4 : upC 8 23 b ≠ 4) : upC 11 52 (wdN b) ≠ 3 ∧ upC 11 52 (wdN b) ≠ 4 := by
  cases ho : lbOk 8 23 b with
  | true => have := (wd_facts ho).1; omega
  | false =>
    rcases lbOk8_not ho with h0 | h | h
    · rw [wd_zero h0, (sg_zero _).1]; omega
    · exact absurd h h3
    · exact absurd h h4
theorem wd_lt (b : Nat) : wdN b < 18446744073709551616 := by
  unfold wdN
  split
  · decide
  · split
    · exact sg_lt (E := 11) (M := 52) (Nat.le_refl _)
    · obtain ⟨x, hx, hw⟩ := rf_word (E := 11) (M := 52) (neg := fNeg 8 23 b) (n := vNum 8 23 b) (d := vDen 8 23 b)
      rw [hw]
      exact sg_lt (E := 11) (M := 52) hx
/-- the exponent is kept -/
theorem wd_log (b : Nat) : lbOk 11 52 (wdN b) = lbOk 8 23 b ∧ lbN 11 52 (wdN b) = lbN 8 23 b := by
  have key : lbOk 11 52 (wdN b) = lbOk 8 23 b := by
    cases ho : lbOk 8 23 b with
    | true => unfold lbOk; rw [(wd_facts ho).1]; rfl
    | false =>
      rcases lbOk8_not ho with h0 | h | h
      · unfold lbOk; rw [wd_zero h0, (sg_zero _).1]; rfl
      · unfold lbOk; rw [wd_inf h, (sg_infc _).1]; rfl
      · unfold lbOk; rw [wd_nan h]; decide
  refine ⟨key, ?_⟩
  unfold lbN
  rw [key]
  cases ho : lbOk 8 23 b with
  | true =>
    rw [(wd_facts ho).2.2.1]
    simp only [if_true]
    omega
  | false => rfl

/-! ### Narrow of the scaled -/
theorem t_mag : mag 11 52 5183643170835005440 = 5183643170835005440 := by decide
theorem t_sgv : sgv 11 52 5183643170835005440 = ((sVal 11 52 5183643170835005440 : Nat) : Int) := by
  unfold sgv
  rw [tparts.2.2.1]
  rfl
theorem small_sgv {y : Nat} (hm : mag 11 52 y < 5183643170835005440) : sgv 11 52 y < sgv 11 52 5183643170835005440 ∧ -sgv 11 52 5183643170835005440 < sgv 11 52 y := by
  have h := sVal_mono (E := 11) (M := 52) (x := y) (y := 5183643170835005440) (by rw [t_mag]; exact hm)
  rw [t_sgv]
  unfold sgv
  generalize sVal 11 52 5183643170835005440 = t at *
  generalize sVal 11 52 y = v at *
  split <;> omega
theorem big_sgv {y : Nat} (hc : upC 11 52 y = 0 ∨ upC 11 52 y = 1 ∨ upC 11 52 y = 2) (hm : 5183643170835005440 < mag 11 52 y) :
    ((FloatKind.f64.format.order y 5183643170835005440 == some .gt) || (FloatKind.f64.format.order y 5183643170835005440 == some .eq)) = !fNeg 11 52 y ∧ (fNeg 11 52 y = true → ((FloatKind.f64.format.order y 14407015207689781248 == some .lt) || (FloatKind.f64.format.order y 14407015207689781248 == some .eq)) = true) := by
  have h := sVal_mono (E := 11) (M := 52) (x := 5183643170835005440) (y := y) (by rw [t_mag]; exact hm)
  obtain ⟨k1, k2⟩ := ge_fin hc
  rw [k1, k2, t_sgv]
  unfold sgv
  generalize sVal 11 52 5183643170835005440 = t at *
  generalize sVal 11 52 y = v at *
  cases fNeg 11 52 y
  · simp; omega
  · simp; omega

/-- small enough for binary32: no infinity -/
theorem rf32_fin {b : Nat} {n : Int} (ho : lbOk 8 23 b = true) (hR : upE 8 23 b + 23 + scK n ≤ 127) : upC 8 23 (rfN 8 23 0 (fNeg 8 23 b) (scNum 8 23 b n) (scDen 8 23 b n)) ≠ 3 := by
  have hn := sc_ne (n := n) f32ok ho
  have hd := scDen_ne 8 23 b n
  have htr := sc_true (n := n) f32ok ho
  have hb := bias8
  have key : ∃ x, x < infN 8 23 ∧ rfN 8 23 0 (fNeg 8 23 b) (scNum 8 23 b n) (scDen 8 23 b n) = sgnd 8 23 (fNeg 8 23 b) x := by
    by_cases hc : -126 ≤ upE 8 23 b + 23 + scK n
    · obtain ⟨r1, r2, r3, r4⟩ := wd_range ho
      refine ⟨(upE 8 23 b + 23 + scK n + 126).toNat * 2 ^ 23 + upM 8 23 b, ?_, ?_⟩
      · have : infN 8 23 = 2139095040 := by decide
        rw [this, p23]; omega
      · refine rf_exact f32ok hd (by rw [p23]; exact r3) (by show upM 8 23 b < 2 ^ 24; have : (2 : Nat) ^ 24 = 16777216 := by decide
                                                             omega) ?_ (by have : infN 8 23 = 2139095040 := by decide
                                                                           rw [this, p23]; omega)
        intro x y hxy
        rw [hb] at hxy
        unfold scNum scDen vNum vDen
        have e1 : upM 8 23 b * 2 ^ (upE 8 23 b).toNat * 2 ^ (scK n).toNat * 2 ^ x = upM 8 23 b * 2 ^ ((upE 8 23 b).toNat + (scK n).toNat + x) := by rw [Nat.pow_add, Nat.pow_add]; grind
        have e2 : 2 ^ (-upE 8 23 b).toNat * 2 ^ (-scK n).toNat * upM 8 23 b * 2 ^ y = upM 8 23 b * 2 ^ ((-upE 8 23 b).toNat + (-scK n).toNat + y) := by rw [Nat.pow_add, Nat.pow_add]; grind
        rw [e1, e2]
        have hxx : (upE 8 23 b).toNat + (scK n).toNat + x = (-upE 8 23 b).toNat + (-scK n).toNat + y := by omega
        rw [hxx]
    · have hrf := rfR_true (E := 8) (by decide) hn hd
      have hrfE : rfE 8 (scNum 8 23 b n) (scDen 8 23 b n) = 1 - (biasN 8 : Int) := by unfold rfE; rw [hrf, htr, hb]; omega
      have htop : rfTop 0 (fNeg 8 23 b) (scNum 8 23 b n) (scDen 8 23 b n) (((23 : Nat) : Int) - (1 - (biasN 8 : Int))) ≤ 2 ^ (23 + 1) := by
        refine rfTop_le (E := 8) hn hd ?_ ?_
        · rw [hrf, htr, hb]; omega
        · rw [hrf, htr, hb]; omega
      unfold rfN
      rw [if_neg hn, hrfE, if_neg (by rw [hb]; omega)]
      unfold pkN
      rw [show (1 - (biasN 8 : Int) - (1 - (biasN 8 : Int))).toNat = 0 by omega]
      generalize rfTop 0 (fNeg 8 23 b) (scNum 8 23 b n) (scDen 8 23 b n) (((23 : Nat) : Int) - (1 - (biasN 8 : Int))) = T at *
      have hi : infN 8 23 = 2139095040 := by decide
      have h24 : (2 : Nat) ^ (23 + 1) = 16777216 := by decide
      rw [h24] at htop
      rw [hi, if_neg (by omega)]
      exact ⟨_, by omega, rfl⟩
  obtain ⟨x, hx, he⟩ := key
  rw [he]
  have := upC_pack (E := 8) (M := 23) (fNeg 8 23 b) hx
  have := upC_fin this
  omega

theorem narrow_scaled (b : Nat) (n : Int) (w : World) : Calls Oajg.prog 41 #[.int .u64 ((scN 11 52 0 (wdN b) n : Nat) : Int)] w fun e w' => e = .returned (.int .u32 (scN 8 23 0 b n : Nat)) ∧ Below w.heap.size w w' := by
  cases ho : lbOk 8 23 b with
  | false =>
    rcases lbOk8_not ho with h0 | h3 | h4
    · -- zero
      have hv0 : scNum 8 23 b n = 0 := by unfold scNum vNum; rw [upM_zero ho]; simp
      have e8 : scN 8 23 0 b n = sgnd 8 23 (fNeg 8 23 b) 0 := by
        unfold scN
        rw [if_neg (by omega), if_neg (by omega)]
        unfold rfN
        rw [if_pos hv0]
      have hz := sg_zero (fNeg 8 23 b)
      have hoz : lbOk 11 52 (sgnd 11 52 (fNeg 8 23 b) 0) = false := by unfold lbOk; rw [hz.1]; rfl
      have e64 : scN 11 52 0 (wdN b) n = sgnd 11 52 (fNeg 8 23 b) 0 := by
        rw [wd_zero h0]
        unfold scN
        rw [hz.1, if_neg (by decide), if_neg (by decide), hz.2.1]
        unfold rfN
        rw [if_pos (by unfold scNum vNum; rw [upM_zero hoz]; simp)]
      rw [e64, e8]
      have hvn : vNum 11 52 (sgnd 11 52 (fNeg 8 23 b) 0) = 0 := by unfold vNum; rw [upM_zero hoz, Nat.zero_mul]
      have hrf : rfN 8 23 0 (fNeg 8 23 b) 0 (vDen 11 52 (sgnd 11 52 (fNeg 8 23 b) 0)) = sgnd 8 23 (fNeg 8 23 b) 0 := by unfold rfN; rw [if_pos rfl]
      obtain ⟨s1, s2⟩ := small_sgv (y := sgnd 11 52 (fNeg 8 23 b) 0) (by cases fNeg 8 23 b <;> decide)
      have := narrow_fin (sgnd 11 52 (fNeg 8 23 b) 0) (Or.inl hz.1) s1 s2 (by rw [hz.2.1, hvn, hrf, hz.2.2]; decide) w
      rw [hz.2.1, hvn, hrf] at this
      exact this
    · -- infinity
      have e8 : scN 8 23 0 b n = sgnd 8 23 (fNeg 8 23 b) (infN 8 23) := by unfold scN; rw [if_neg (by omega), if_pos h3]
      have hi := sg_infc (fNeg 8 23 b)
      have e64 : scN 11 52 0 (wdN b) n = sgnd 11 52 (fNeg 8 23 b) (infN 11 52) := by
        rw [wd_inf h3]
        unfold scN
        rw [hi.1, if_neg (by decide), if_pos rfl, hi.2]
      rw [e64, e8]
      obtain ⟨g1, g2⟩ := ge_inf hi.1
      rw [hi.2] at g1 g2
      exact narrow_big _ _ g1 (fun e => by rw [g2, e]) w
    · -- a NaN
      have e8 : scN 8 23 0 b n = nanN 8 23 := by unfold scN; rw [if_pos h4]
      have hn : upC 11 52 (nanN 11 52) = 4 := by decide
      have e64 : scN 11 52 0 (wdN b) n = nanN 11 52 := by
        rw [wd_nan h4]
        unfold scN
        rw [if_pos hn]
      rw [e64, e8]
      exact narrow_nan' _ hn w
  | true =>
    obtain ⟨w1, w2, w3, w4⟩ := wd_facts ho
    obtain ⟨r1, r2, r3, r4⟩ := wd_range ho
    obtain ⟨c3, c4, c0⟩ := lbOk_fin ho
    have hoW : lbOk 11 52 (wdN b) = true := by unfold lbOk; rw [w1]; rfl
    have e8 : scN 8 23 0 b n = rfN 8 23 0 (fNeg 8 23 b) (scNum 8 23 b n) (scDen 8 23 b n) := by unfold scN; rw [if_neg c4, if_neg c3]
    have e64 : scN 11 52 0 (wdN b) n = rfN 11 52 0 (fNeg 8 23 b) (scNum 11 52 (wdN b) n) (scDen 11 52 (wdN b) n) := by unfold scN; rw [w1, if_neg (by decide), if_neg (by decide), w2]
    have t64 := sc_true (n := n) f64ok hoW
    have t8 := sc_true (n := n) f32ok ho
    rw [w3] at t64
    have n64 := sc_ne (n := n) f64ok hoW
    have d64 := scDen_ne 11 52 (wdN b) n
    have n8 := sc_ne (n := n) f32ok ho
    have d8 := scDen_ne 8 23 b n
    obtain ⟨R, hR⟩ : ∃ R : Int, R = upE 8 23 b + 23 + scK n := ⟨_, rfl⟩
    have t64' : trueR (scNum 11 52 (wdN b) n) (scDen 11 52 (wdN b) n) = R := by rw [t64, hR]; omega
    have t8' : trueR (scNum 8 23 b n) (scDen 8 23 b n) = R := by rw [t8, hR]; rfl
    have hb := bias11
    have hb8 := bias8
    have over8 : 127 < R → scN 8 23 0 b n = sgnd 8 23 (fNeg 8 23 b) (infN 8 23) := fun hc => by
      rw [e8, (rf_over (mo := 0) (neg := fNeg 8 23 b) f32ok n8 d8 (by rw [t8', hb8]; exact hc)).1, ov0]
    by_cases k1 : 1023 < R
    · have hy : scN 11 52 0 (wdN b) n = sgnd 11 52 (fNeg 8 23 b) (infN 11 52) := by
        rw [e64, (rf_over (mo := 0) (neg := fNeg 8 23 b) f64ok n64 d64 (by rw [t64', hb]; exact k1)).1, ov0]
      rw [hy, over8 (by omega)]
      have hi := sg_infc (fNeg 8 23 b)
      obtain ⟨g1, g2⟩ := ge_inf hi.1
      rw [hi.2] at g1 g2
      exact narrow_big _ _ g1 (fun e => by rw [g2, e]) w
    · by_cases k2 : R < -1022
      · -- far below
        have h8 : scN 8 23 0 b n = sgnd 8 23 (fNeg 8 23 b) 0 := by
          rw [e8]
          exact rf_zero f32ok n8 d8 (by rw [t8', hb8]; omega)
        have hrf := rfR_true (E := 11) (by decide) n64 d64
        have hrfE : rfE 11 (scNum 11 52 (wdN b) n) (scDen 11 52 (wdN b) n) = 1 - (biasN 11 : Int) := by unfold rfE; rw [hrf, t64', hb]; omega
        obtain ⟨x, hx, hy⟩ : ∃ x, x ≤ 4503599627370496 ∧ scN 11 52 0 (wdN b) n = sgnd 11 52 (fNeg 8 23 b) x := by
          obtain ⟨K, hK⟩ : ∃ K : Int, K = ((52 : Nat) : Int) - (1 - (biasN 11 : Int)) := ⟨_, rfl⟩
          have hq : scNum 11 52 (wdN b) n * 2 ^ K.toNat / (scDen 11 52 (wdN b) n * 2 ^ (-K).toNat) < 2 ^ 52 := by
            rw [Nat.div_lt_iff_lt_mul (Nat.mul_pos (Nat.pos_of_ne_zero d64) (pp _))]
            have h1 := true_up n64 d64 (K.toNat + (-(R + 1) - K + 52).toNat) ((-K).toNat + 52) (by rw [t64']; omega)
            rw [mulpow, mulpow] at h1
            have h2 : scNum 11 52 (wdN b) n * 2 ^ K.toNat ≤ scNum 11 52 (wdN b) n * 2 ^ K.toNat * 2 ^ (-(R + 1) - K + 52).toNat := Nat.le_mul_of_pos_right _ (pp _)
            rw [Nat.mul_comm (2 ^ 52)]
            exact Nat.lt_of_le_of_lt h2 h1
          have htop : rfTop 0 (fNeg 8 23 b) (scNum 11 52 (wdN b) n) (scDen 11 52 (wdN b) n) K ≤ 4503599627370496 := by
            have := rzN_le 0 (fNeg 8 23 b) (scNum 11 52 (wdN b) n * 2 ^ K.toNat) (scDen 11 52 (wdN b) n * 2 ^ (-K).toNat)
            unfold rfTop
            rw [p52] at hq
            omega
          rw [e64]
          unfold rfN
          rw [if_neg n64, hrfE, if_neg (by rw [hb]; omega), ← hK]
          unfold pkN
          rw [show (1 - (biasN 11 : Int) - (1 - (biasN 11 : Int))).toNat = 0 by omega]
          generalize rfTop 0 (fNeg 8 23 b) (scNum 11 52 (wdN b) n) (scDen 11 52 (wdN b) n) K = T at *
          have hi : infN 11 52 = 9218868437227405312 := by decide
          rw [Nat.zero_mul, Nat.zero_add, hi, if_neg (by omega)]
          exact ⟨T, htop, rfl⟩
        rw [hy, h8]
        have hx2 : x < 2 ^ (11 + 52) := Nat.lt_of_le_of_lt hx (by decide)
        have hxi : x < infN 11 52 := Nat.lt_of_le_of_lt hx (by decide)
        have hfe := fExp_sgnd (E := 11) (M := 52) (fNeg 8 23 b) hx2
        have hfm := fMan_sgnd (E := 11) (M := 52) (x := x) (fNeg 8 23 b)
        have hmg : mag 11 52 (sgnd 11 52 (fNeg 8 23 b) x) = x := by
          rw [mag_eq, hfe, hfm, Nat.mul_comm]; exact Nat.div_add_mod x (2 ^ 52)
        have hcf := upC_fin (upC_pack (E := 11) (M := 52) (fNeg 8 23 b) hxi)
        have hneg : fNeg 11 52 (sgnd 11 52 (fNeg 8 23 b) x) = fNeg 8 23 b := by
          have hd1 : x / 2 ^ 52 < 2 ^ 11 := by rw [Nat.div_lt_iff_lt_mul (pp _), ← Nat.pow_add]; exact hx2
          have := (parts (E := 11) (M := 52) (fNeg 8 23 b) (e := x / 2 ^ 52) (f := x % 2 ^ 52) hd1 (Nat.mod_lt _ (pp _))).2.2
          rw [Nat.mul_comm, Nat.div_add_mod] at this
          exact this
        obtain ⟨s1, s2⟩ := small_sgv (y := sgnd 11 52 (fNeg 8 23 b) x) (by rw [hmg]; omega)
        obtain ⟨Y, hYe⟩ : ∃ Y, Y = sgnd 11 52 (fNeg 8 23 b) x := ⟨_, rfl⟩
        rw [← hYe] at hcf hneg s1 s2 hfe hfm hmg ⊢
        have hvq := vNum_eq f64ok hcf
        have hsv : sVal 11 52 Y ≤ 4503599627370496 := by
          unfold sVal
          rw [hfe, hfm]
          by_cases hxl : x < 4503599627370496
          · rw [p52, Nat.div_eq_of_lt hxl, if_pos rfl, Nat.mod_eq_of_lt hxl]; exact hx
          · have hxe : x = 4503599627370496 := by omega
            rw [hxe]; decide
        have hrz : rfN 8 23 0 (fNeg 8 23 b) (vNum 11 52 Y) (vDen 11 52 Y) = sgnd 8 23 (fNeg 8 23 b) 0 := by
          by_cases hv0 : vNum 11 52 Y = 0
          · unfold rfN; rw [if_pos hv0]
          · refine rf_zero f32ok hv0 (vDen_ne _ _ _) ?_
            have hlt : trueR (vNum 11 52 Y) (vDen 11 52 Y) < -1021 := by
              refine pow_order (vDen_ne 11 52 Y) (true_low hv0 (vDen_ne _ _ _)) ?_
              intro x1 y1 hxy
              obtain ⟨P, hP⟩ : ∃ P, P = biasN 11 + 52 - 1 := ⟨_, rfl⟩
              rw [← hP] at hvq
              rw [hb] at hP
              refine sp_lt (a := P) (b := 53) (by omega) ?_
              rw [hvq]
              refine Nat.mul_lt_mul_of_pos_left (Nat.lt_of_le_of_lt hsv (by decide)) (Nat.pos_of_ne_zero (vDen_ne _ _ _))
            rw [hb8]; omega
        have hz := sg_zero (fNeg 8 23 b)
        have := narrow_fin Y hcf s1 s2 (by rw [hneg, hrz, hz.2.2]; decide) w
        rw [hneg, hrz] at this
        exact this
      · -- binary64 has it
        obtain ⟨D, hD, hy⟩ := rf64_exact (neg := fNeg 8 23 b) (n := scNum 11 52 (wdN b) n) (d := scDen 11 52 (wdN b) n) (N := upM 8 23 b * 536870912) (R := R) d64 (by omega) (by omega) (by omega) (by omega) (by
          intro x y hxy
          unfold scNum scDen vNum vDen
          rw [w4]
          have e1 : upM 8 23 b * 536870912 * 2 ^ (upE 11 52 (wdN b)).toNat * 2 ^ (scK n).toNat * 2 ^ x = upM 8 23 b * 536870912 * 2 ^ ((upE 11 52 (wdN b)).toNat + (scK n).toNat + x) := by rw [Nat.pow_add, Nat.pow_add]; grind
          have e2 : 2 ^ (-upE 11 52 (wdN b)).toNat * 2 ^ (-scK n).toNat * (upM 8 23 b * 536870912) * 2 ^ y = upM 8 23 b * 536870912 * 2 ^ ((-upE 11 52 (wdN b)).toNat + (-scK n).toNat + y) := by rw [Nat.pow_add, Nat.pow_add]; grind
          rw [e1, e2]
          have hxx : (upE 11 52 (wdN b)).toNat + (scK n).toNat + x = (-upE 11 52 (wdN b)).toNat + (-scK n).toNat + y := by omega
          rw [hxx])
        rw [← e64] at hy
        obtain ⟨p1, p2, p3, p4, p5⟩ := norm_parts (neg := fNeg 8 23 b) (D := D) (N := upM 8 23 b * 536870912) (by omega) (by omega) (by omega)
        rw [← hy] at p1 p2 p3 p4 p5
        obtain ⟨Y, hYe⟩ : ∃ Y, Y = scN 11 52 0 (wdN b) n := ⟨_, rfl⟩
        rw [← hYe] at p1 p2 p3 p4 p5 ⊢
        by_cases k3 : 127 < R
        · rw [over8 k3]
          obtain ⟨g1, g2⟩ := big_sgv (y := Y) (Or.inr (Or.inr p1)) (by rw [p5]; omega)
          rw [p2] at g1 g2
          exact narrow_big _ _ g1 g2 w
        · obtain ⟨s1, s2⟩ := small_sgv (y := Y) (by rw [p5]; omega)
          have hrat : rfN 8 23 0 (fNeg 8 23 b) (vNum 11 52 Y) (vDen 11 52 Y) = rfN 8 23 0 (fNeg 8 23 b) (scNum 8 23 b n) (scDen 8 23 b n) := by
            refine rf_ratio f32ok (vDen_ne _ _ _) d8 ?_
            unfold scNum scDen vNum vDen
            rw [p4, ← p29]
            have e1 : upM 8 23 b * 2 ^ 29 * 2 ^ (upE 11 52 Y).toNat * (2 ^ (-upE 8 23 b).toNat * 2 ^ (-scK n).toNat) = upM 8 23 b * 2 ^ (29 + (upE 11 52 Y).toNat + (-upE 8 23 b).toNat + (-scK n).toNat) := by rw [Nat.pow_add, Nat.pow_add, Nat.pow_add]; grind
            have e2 : upM 8 23 b * 2 ^ (upE 8 23 b).toNat * 2 ^ (scK n).toNat * 2 ^ (-upE 11 52 Y).toNat = upM 8 23 b * 2 ^ ((upE 8 23 b).toNat + (scK n).toNat + (-upE 11 52 Y).toNat) := by rw [Nat.pow_add, Nat.pow_add]; grind
            rw [e1, e2]
            have hxx : 29 + (upE 11 52 Y).toNat + (-upE 8 23 b).toNat + (-scK n).toNat = (upE 8 23 b).toNat + (scK n).toNat + (-upE 11 52 Y).toNat := by omega
            rw [hxx]
          have hno := rf32_fin (n := n) ho (by omega)
          have := narrow_fin Y (Or.inr (Or.inr p1)) s1 s2 (by rw [p2, hrat]; exact hno) w
          rw [p2, hrat, ← e8] at this
          exact this

end Go.Proofs.Ygcoaj
