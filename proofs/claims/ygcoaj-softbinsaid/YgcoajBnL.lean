/-
  PLAIN and CONTRACTS: soft's and exact's sum, product and quotient give one answer.
-/
import Derived.Test.YgcoajBnX2
import Derived.Test.YgcoajBnX3
set_option linter.unusedVariables false
set_option linter.unusedSimpArgs false
namespace Go.Proofs.Ygcoaj
open Go.RowKit

def mlF (E M mo a b : Nat) : Nat := rfN E M mo (fNeg E M a != fNeg E M b) (vNum E M a * vNum E M b) (vDen E M a * vDen E M b)
def dvF (E M mo a b : Nat) : Nat := rfN E M mo (fNeg E M a != fNeg E M b) (vNum E M a * vDen E M b) (vDen E M a * vNum E M b)

theorem mlF_zero {E M mo a b : Nat} (h : lbOk E M a = false ∨ lbOk E M b = false) : mlF E M mo a b = sgnd E M (fNeg E M a != fNeg E M b) 0 := by
  unfold mlF rfN
  rw [if_pos]
  rcases h with h | h
  · rw [vNum_zero h, Nat.zero_mul]
  · rw [vNum_zero h, Nat.mul_zero]
theorem dvF_zero {E M mo a b : Nat} (h : lbOk E M a = false) : dvF E M mo a b = sgnd E M (fNeg E M a != fNeg E M b) 0 := by
  unfold dvF rfN
  rw [if_pos]
  rw [vNum_zero h, Nat.zero_mul]

theorem mul_law {E M mo a b : Nat} (h : FOk E M) (ho1 : lbOk E M a = true) (ho2 : lbOk E M b = true) :
    rpN E M mo (fNeg E M a != fNeg E M b) (upE E M a + upE E M b + 64 - ((128 - bitLen (upM E M a * upM E M b) : Nat) : Int)) (jamQ (upM E M a * upM E M b * 2 ^ (128 - bitLen (upM E M a * upM E M b))) 18446744073709551616) = mlF E M mo a b := by
  have hM := h.m52
  have l1 := upM_lt E M a (by omega)
  have l2 := upM_lt E M b (by omega)
  obtain ⟨g1, _⟩ := upM_norm h ho1
  obtain ⟨g2, _⟩ := upM_norm h ho2
  have hp := pp M
  have hS0 : upM E M a * upM E M b ≠ 0 := Nat.mul_ne_zero (by omega) (by omega)
  have hS2 : upM E M a * upM E M b < 18446744073709551616 * 18446744073709551616 := Nat.mul_lt_mul'' l1 l2
  obtain ⟨x, hx⟩ : ∃ x : Int, x = upE E M a + upE E M b := ⟨_, rfl⟩
  rw [← hx, ← jam64 (a1 := (-x).toNat) (b1 := x.toNat) h hS0 hS2 (by omega)]
  unfold mlF
  refine rf_ratio h (Nat.ne_of_gt (pp _)) (Nat.mul_ne_zero (vDen_ne _ _ _) (vDen_ne _ _ _)) ?_
  unfold vNum vDen
  have e1 : upM E M a * upM E M b * 2 ^ x.toNat * (2 ^ (-upE E M a).toNat * 2 ^ (-upE E M b).toNat) = upM E M a * upM E M b * 2 ^ (x.toNat + (-upE E M a).toNat + (-upE E M b).toNat) := by rw [Nat.pow_add, Nat.pow_add]; grind
  have e2 : upM E M a * 2 ^ (upE E M a).toNat * (upM E M b * 2 ^ (upE E M b).toNat) * 2 ^ (-x).toNat = upM E M a * upM E M b * 2 ^ ((upE E M a).toNat + (upE E M b).toNat + (-x).toNat) := by rw [Nat.pow_add, Nat.pow_add]; grind
  rw [e1, e2]
  congr 2
  omega

theorem div_law {E M mo a b : Nat} (h : FOk E M) (ho1 : lbOk E M a = true) (ho2 : lbOk E M b = true) :
    rpN E M mo (fNeg E M a != fNeg E M b) (upE E M a - ((63 - M : Nat) : Int) - (upE E M b - ((63 - M : Nat) : Int)) - 63) (jamQ (nuM E M a * 9223372036854775808) (nuM E M b)) = dvF E M mo a b ∧ jamQ (nuM E M a * 9223372036854775808) (nuM E M b) < 18446744073709551616 := by
  have hM := h.m52
  obtain ⟨p1, p2⟩ := nu_range h ho1
  obtain ⟨q1, q2⟩ := nu_range h ho2
  have hQ : nuM E M a * 9223372036854775808 / nuM E M b < 18446744073709551616 := by
    refine Nat.div_lt_of_lt_mul ?_
    have : 2 ^ 63 * 18446744073709551616 ≤ nuM E M b * 18446744073709551616 := Nat.mul_le_mul_right _ q1
    omega
  have hJ : jamQ (nuM E M a * 9223372036854775808) (nuM E M b) < 18446744073709551616 := by
    unfold jamQ; split <;> omega
  refine ⟨?_, hJ⟩
  obtain ⟨x, hx⟩ : ∃ x : Int, x = upE E M a - ((63 - M : Nat) : Int) - (upE E M b - ((63 - M : Nat) : Int)) - 63 := ⟨_, rfl⟩
  rw [← hx]
  have e0 : ((x.toNat : Nat) : Int) - ((-x).toNat : Nat) = x := by omega
  rw [(rp_rf (n := jamQ (nuM E M a * 9223372036854775808) (nuM E M b) * 2 ^ x.toNat) (d := 2 ^ (-x).toNat) (a0 := (-x).toNat) (b0 := x.toNat) h hJ (Nat.ne_of_gt (pp _)) e0 (by grind)).1]
  unfold dvF
  refine (sticky (N := nuM E M a * 9223372036854775808) (D := nuM E M b) h (Nat.mul_ne_zero (vDen_ne _ _ _) (v_ne h ho2)) (by omega) e0 ?_ ?_).symm
  · unfold vNum vDen nuM
    have e1 : upM E M a * 2 ^ (upE E M a).toNat * 2 ^ (-upE E M b).toNat * (upM E M b * 2 ^ (63 - M)) * 2 ^ (-x).toNat = upM E M a * upM E M b * 2 ^ ((upE E M a).toNat + (-upE E M b).toNat + (63 - M) + (-x).toNat) := by rw [Nat.pow_add, Nat.pow_add, Nat.pow_add]; grind
    have e2 : 2 ^ (-upE E M a).toNat * (upM E M b * 2 ^ (upE E M b).toNat) * (upM E M a * 2 ^ (63 - M) * 9223372036854775808) * 2 ^ x.toNat = upM E M a * upM E M b * 2 ^ ((-upE E M a).toNat + (upE E M b).toNat + (63 - M) + 63 + x.toNat) := by
      rw [Nat.pow_add, Nat.pow_add, Nat.pow_add, Nat.pow_add]
      have : (2 : Nat) ^ 63 = 9223372036854775808 := by decide
      rw [this]
      grind
    rw [e1, e2]
    congr 2
    omega
  · refine Or.inr ?_
    rw [Nat.le_div_iff_mul_le (by omega)]
    have e3 : 2 ^ (M + 2) ≤ 2 ^ 54 := Nat.pow_le_pow_right (by decide) (by omega)
    have e4 : 2 ^ (M + 2) * nuM E M b ≤ 2 ^ 54 * 2 ^ 64 := Nat.mul_le_mul e3 (Nat.le_of_lt q2)
    exact Nat.le_trans e4 (Nat.le_trans (by decide) (Nat.mul_le_mul_right _ p1))

theorem cls4 (E M a : Nat) : upC E M a = 0 ∨ upC E M a = 3 ∨ upC E M a = 4 ∨ (upC E M a ≠ 0 ∧ upC E M a ≠ 3 ∧ upC E M a ≠ 4) := by omega
theorem lbOk_nz {E M a : Nat} (h0 : upC E M a ≠ 0) (h3 : upC E M a ≠ 3) (h4 : upC E M a ≠ 4) : lbOk E M a = true := by
  have := upC_range E M a
  unfold lbOk
  simp only [Bool.or_eq_true, decide_eq_true_eq]
  omega
theorem lbOk_z {E M a : Nat} (h0 : upC E M a = 0) : lbOk E M a = false := by
  unfold lbOk
  simp only [Bool.or_eq_false_iff, decide_eq_false_iff_not]
  omega
theorem neq_fin {E M a b : Nat} (h1 : upC E M a ≠ 4) (h2 : upC E M b ≠ 4) : (upN E M a != upN E M b) = (fNeg E M a != fNeg E M b) := by rw [upN_fin h1, upN_fin h2]

/-! ### the answers -/
def adN (E M mo a b : Nat) : Nat := adC E M (upC E M a) (upC E M b) (upN E M a) (upN E M b) (adF E M mo a b)
def mlN (E M mo a b : Nat) : Nat := mlC E M (upC E M a) (upC E M b) (upN E M a != upN E M b) (mlF E M mo a b)
def dvN (E M mo a b : Nat) : Nat := dvC E M (upC E M a) (upC E M b) (upN E M a != upN E M b) (dvF E M mo a b)
theorem adC_neg {E M a b F : Nat} : adC E M (upC E M a) (upC E M b) (fNeg E M a) (fNeg E M b) F = adC E M (upC E M a) (upC E M b) (upN E M a) (upN E M b) F := by
  by_cases h4 : upC E M a = 4 ∨ upC E M b = 4
  · unfold adC; rw [if_pos h4, if_pos h4]
  · rw [upN_fin (fun e => h4 (Or.inl e)), upN_fin (fun e => h4 (Or.inr e))]
theorem mlC_neg {E M a b F : Nat} : mlC E M (upC E M a) (upC E M b) (fNeg E M a != fNeg E M b) F = mlC E M (upC E M a) (upC E M b) (upN E M a != upN E M b) F := by
  by_cases h4 : upC E M a = 4 ∨ upC E M b = 4
  · unfold mlC; rw [if_pos h4, if_pos h4]
  · rw [upN_fin (fun e => h4 (Or.inl e)), upN_fin (fun e => h4 (Or.inr e))]
theorem dvC_neg {E M a b F : Nat} : dvC E M (upC E M a) (upC E M b) (fNeg E M a != fNeg E M b) F = dvC E M (upC E M a) (upC E M b) (upN E M a != upN E M b) F := by
  by_cases h4 : upC E M a = 4 ∨ upC E M b = 4
  · unfold dvC; rw [if_pos h4, if_pos h4]
  · rw [upN_fin (fun e => h4 (Or.inl e)), upN_fin (fun e => h4 (Or.inr e))]
theorem vN_finn {E M a : Nat} (h3 : upC E M a ≠ 3) (h4 : upC E M a ≠ 4) : vN E M a = fNeg E M a := by unfold vN; rw [if_neg h3, upN_fin h4]

theorem addS_ok (E M : Nat) (h : FOk E M) (mo a b : Nat) (ha : a < 18446744073709551616) (hb : b < 18446744073709551616) (w : World) : Calls Oajg.prog 143 #[.agg #[.int .u8 (E : Int), .int .u8 (M : Int)], .int .u8 (mo : Int), .int .u64 (a : Int), .int .u64 (b : Int)] w fun e w' => ∃ fl, e = .returned (.tuple #[.int .u64 (adN E M mo a b : Nat), .int .u8 fl]) ∧ Below w.heap.size w w' := by
  refine add2S E M mo a b (adF E M mo a b) (nanN E M) _ _ _ _ _ _ _ _ (cls4 E M a) (cls4 E M b) (ok_yes h) (unpack_ok E M h a ha) (unpack_ok E M h b hb) (nan_ok E M h) (fun w => (heardS_ok E M h a b ha hb w).mono fun e w' hh => ⟨_, hh.1, hh.2⟩) (fun n => inf_ok E M h n) rfl ?_ w
  intro h13 h14 h23 h24 w
  rw [upN_fin h14, upN_fin h24]
  exact addFinite_ok E M h mo a b ⟨h13, h14⟩ ⟨h23, h24⟩ w
theorem addX_ok (E M : Nat) (h : FOk E M) (mo a b : Nat) (ha : a < 18446744073709551616) (hb : b < 18446744073709551616) (w : World) : Calls Oajg.prog 147 #[.agg #[.int .u8 (E : Int), .int .u8 (M : Int)], .int .u8 (mo : Int), .int .u64 (a : Int), .int .u64 (b : Int)] w fun e w' => ∃ fl, e = .returned (.tuple #[.int .u64 (adN E M mo a b : Nat), .int .u8 fl]) ∧ Below w.heap.size w w' := by
  unfold adN
  rw [← adC_neg]
  refine add2X E M h mo a b (adF E M mo a b) (nanN E M) _ _ _ _ _ _ _ _ _ _ _ _ (cls4 E M a) (cls4 E M b) (opened E M h a ha) (opened E M h b hb) (fun w => (heardX_ok E M h a b ha hb w).mono fun e w' hh => ⟨_, hh.1, hh.2⟩) rfl (vDen_ne _ _ _) (vDen_ne _ _ _) (fun h3 => bits_inf h h3) (fun h3 => bits_inf h h3) ?_ w
  intro h13 h14 h23 h24
  rw [vN_finn h13 h14, vN_finn h23 h24]
  rfl
theorem mulS_ok (E M : Nat) (h : FOk E M) (mo a b : Nat) (ha : a < 18446744073709551616) (hb : b < 18446744073709551616) (w : World) : Calls Oajg.prog 145 #[.agg #[.int .u8 (E : Int), .int .u8 (M : Int)], .int .u8 (mo : Int), .int .u64 (a : Int), .int .u64 (b : Int)] w fun e w' => ∃ fl, e = .returned (.tuple #[.int .u64 (mlN E M mo a b : Nat), .int .u8 fl]) ∧ Below w.heap.size w w' := by
  have hM := h.m52
  have l1 := upM_lt E M a (by omega)
  have l2 := upM_lt E M b (by omega)
  have hS2 : upM E M a * upM E M b < 18446744073709551616 * 18446744073709551616 := Nat.mul_lt_mul'' l1 l2
  have r1 := upE_range h a
  have r2 := upE_range h b
  have hbl : bitLen (upM E M a * upM E M b) ≤ 128 := bitLen_le_of_lt (n := 128) hS2
  have hne : lbOk E M a = true → lbOk E M b = true → upM E M a * upM E M b ≠ 0 := fun o1 o2 => by
    have := upM_norm h o1
    have := upM_norm h o2
    have := pp M
    exact Nat.mul_ne_zero (by omega) (by omega)
  refine mul2S E M mo a b (mlF E M mo a b) (nanN E M) _ _ _ _ _ _ _ _ (cls4 E M a) (cls4 E M b) (ok_yes h) (unpack_ok E M h a ha) (unpack_ok E M h b hb) (nan_ok E M h) (fun w => (heardS_ok E M h a b ha hb w).mono fun e w' hh => ⟨_, hh.1, hh.2⟩) (fun n => inf_ok E M h n) rfl (fun n => zeroS_ok E M h n)
    (upM E M a * upM E M b / 18446744073709551616) (upM E M a * upM E M b % 18446744073709551616) (jamQ (upM E M a * upM E M b * 2 ^ (128 - bitLen (upM E M a * upM E M b))) 18446744073709551616) (upE E M a + upE E M b + 64 - ((128 - bitLen (upM E M a * upM E M b) : Nat) : Int)) r1 r2 ?_ (mul64_ok _ _ l1 l2) ?_ ?_ w
  · intro hz h13 h14 h23 h24
    rw [neq_fin h14 h24]
    exact mlF_zero (hz.elim (fun e => Or.inl (lbOk_z e)) (fun e => Or.inr (lbOk_z e)))
  · intro h10 h13 h14 h20 h23 h24 w
    exact jam_ok _ _ _ _ (wd_split hS2) (hne (lbOk_nz h10 h13 h14) (lbOk_nz h20 h23 h24)) (by omega) (by omega) w
  · intro h10 h13 h14 h20 h23 h24 w
    have o1 := lbOk_nz h10 h13 h14
    have o2 := lbOk_nz h20 h23 h24
    rw [neq_fin h14 h24, ← mul_law h o1 o2]
    exact (roundPack_ok E M h mo _ _ _ (jamQ_lt (hne o1 o2) hS2) (by omega) (by omega) w).mono fun e w' hh => ⟨_, hh.1, hh.2⟩
theorem mulX_ok (E M : Nat) (h : FOk E M) (mo a b : Nat) (ha : a < 18446744073709551616) (hb : b < 18446744073709551616) (w : World) : Calls Oajg.prog 149 #[.agg #[.int .u8 (E : Int), .int .u8 (M : Int)], .int .u8 (mo : Int), .int .u64 (a : Int), .int .u64 (b : Int)] w fun e w' => ∃ fl, e = .returned (.tuple #[.int .u64 (mlN E M mo a b : Nat), .int .u8 fl]) ∧ Below w.heap.size w w' := by
  unfold mlN
  rw [← mlC_neg]
  refine mul2X E M h mo a b (mlF E M mo a b) (nanN E M) _ _ _ _ _ _ _ _ _ _ _ _ (cls4 E M a) (cls4 E M b) (opened E M h a ha) (opened E M h b hb) (fun w => (heardX_ok E M h a b ha hb w).mono fun e w' hh => ⟨_, hh.1, hh.2⟩) rfl (vDen_ne _ _ _) (vDen_ne _ _ _) (fun h0 h3 h4 => v_ne h (lbOk_nz h0 h3 h4)) (fun _ _ _ _ => rfl) w
theorem divX_ok (E M : Nat) (h : FOk E M) (mo a b : Nat) (ha : a < 18446744073709551616) (hb : b < 18446744073709551616) (w : World) : Calls Oajg.prog 150 #[.agg #[.int .u8 (E : Int), .int .u8 (M : Int)], .int .u8 (mo : Int), .int .u64 (a : Int), .int .u64 (b : Int)] w fun e w' => ∃ fl, e = .returned (.tuple #[.int .u64 (dvN E M mo a b : Nat), .int .u8 fl]) ∧ Below w.heap.size w w' := by
  unfold dvN
  rw [← dvC_neg]
  refine div2X E M h mo a b (dvF E M mo a b) (nanN E M) _ _ _ _ _ _ _ _ _ _ _ _ (cls4 E M a) (cls4 E M b) (opened E M h a ha) (opened E M h b hb) (fun w => (heardX_ok E M h a b ha hb w).mono fun e w' hh => ⟨_, hh.1, hh.2⟩) rfl (vDen_ne _ _ _) (vDen_ne _ _ _) (fun h0 h3 h4 => v_ne h (lbOk_nz h0 h3 h4)) (fun _ _ _ _ => rfl) w
theorem divS_ok (E M : Nat) (h : FOk E M) (mo a b : Nat) (ha : a < 18446744073709551616) (hb : b < 18446744073709551616) (w : World) : Calls Oajg.prog 146 #[.agg #[.int .u8 (E : Int), .int .u8 (M : Int)], .int .u8 (mo : Int), .int .u64 (a : Int), .int .u64 (b : Int)] w fun e w' => ∃ fl, e = .returned (.tuple #[.int .u64 (dvN E M mo a b : Nat), .int .u8 fl]) ∧ Below w.heap.size w w' := by
  have hM := h.m52
  have r1 := upE_range h a
  have r2 := upE_range h b
  have m1 : nuM E M a < 18446744073709551616 := by
    cases ho : lbOk E M a with
    | true => exact (nu_range h ho).2
    | false => unfold nuM; rw [upM_zero ho, Nat.zero_mul]; decide
  have hQ : nuM E M a * 9223372036854775808 / nuM E M b < 18446744073709551616 := by
    cases ho : lbOk E M b with
    | true =>
      refine Nat.div_lt_of_lt_mul ?_
      have := (nu_range h ho).1
      have : 2 ^ 63 * 18446744073709551616 ≤ nuM E M b * 18446744073709551616 := Nat.mul_le_mul_right _ this
      omega
    | false => unfold nuM; rw [upM_zero ho, Nat.zero_mul, Nat.div_zero]; decide
  refine div2S E M mo a b (dvF E M mo a b) (nanN E M) _ _ _ _ _ _ _ _ (cls4 E M a) (cls4 E M b) (ok_yes h) (unpack_ok E M h a ha) (unpack_ok E M h b hb) (nan_ok E M h) (fun w => (heardS_ok E M h a b ha hb w).mono fun e w' hh => ⟨_, hh.1, hh.2⟩) (fun n => inf_ok E M h n) rfl (fun n => zeroS_ok E M h n)
    (nuM E M a) (nuM E M b) (nuM E M a * 9223372036854775808 / nuM E M b) (nuM E M a * 9223372036854775808 % nuM E M b) (upE E M a - ((63 - M : Nat) : Int)) (upE E M b - ((63 - M : Nat) : Int)) m1 hQ (by omega) (by omega) ?_ ?_ ?_ ?_ ?_ w
  · intro h0 h20 h23 h24
    rw [neq_fin (by omega) h24]
    exact dvF_zero (lbOk_z h0)
  · intro h10 h13 h14 h20 h23 h24 w
    exact top_ok E M (by omega) _ _ _ _ (nu_range h (lbOk_nz h10 h13 h14)).2 (by omega) (by omega) w
  · intro h10 h13 h14 h20 h23 h24 w
    exact top_ok E M (by omega) _ _ _ _ (nu_range h (lbOk_nz h20 h23 h24)).2 (by omega) (by omega) w
  · intro h10 h13 h14 h20 h23 h24 w
    have o2 := nu_range h (lbOk_nz h20 h23 h24)
    have hw := num_words m1
    have := wdiv_ok (nuM E M a / 2) (nuM E M a * 9223372036854775808 % 18446744073709551616) (nuM E M b) hw.2.1 o2.2 (by omega) w
    rw [hw.2.2] at this
    exact this
  · intro h10 h13 h14 h20 h23 h24 w
    have o1 := lbOk_nz h10 h13 h14
    have o2 := lbOk_nz h20 h23 h24
    obtain ⟨e1, e2⟩ := div_law (mo := mo) h o1 o2
    rw [neq_fin h14 h24, ← e1]
    exact (roundPack_ok E M h mo _ _ _ e2 (by omega) (by omega) w).mono fun e w' hh => ⟨_, hh.1, hh.2⟩

/-! ### Sub: the second operand with its sign turned -/
theorem xor_u64 (x y : Nat) (hx : x < 18446744073709551616) (hy : y < 18446744073709551616) : bits .xor .u64 (x : Int) (y : Int) = ((x ^^^ y : Nat) : Int) := by
  have e : (BitVec.ofInt 64 (x : Int) ^^^ BitVec.ofInt 64 (y : Int)).toNat = x ^^^ y := by
    rw [BitVec.toNat_xor, BitVec.toNat_ofInt, BitVec.toNat_ofInt]
    congr 1 <;> omega
  show IntKind.u64.wrap ((BitVec.ofInt 64 (x : Int) ^^^ BitVec.ofInt 64 (y : Int)).toNat : Int) = _
  rw [e]
  exact wrap64 (Nat.xor_lt_two_pow (n := 64) hx hy)
set_option maxRecDepth 100000 in
set_option maxHeartbeats 2000000 in
theorem subS_ok (E M : Nat) (h : FOk E M) (mo a b : Nat) (ha : a < 18446744073709551616) (hb : b < 18446744073709551616) (w : World) : Calls Oajg.prog 144 #[.agg #[.int .u8 (E : Int), .int .u8 (M : Int)], .int .u8 (mo : Int), .int .u64 (a : Int), .int .u64 (b : Int)] w fun e w' => ∃ fl, e = .returned (.tuple #[.int .u64 (adN E M mo a (b ^^^ 2 ^ (E + M)) : Nat), .int .u8 fl]) ∧ Below w.heap.size w w' := by
  have p1 : 2 ^ (E + M) < 18446744073709551616 := by
    have := h.e11
    have := h.m52
    exact Nat.lt_of_le_of_lt (Nat.pow_le_pow_right (by decide) (show E + M ≤ 63 by omega)) (by decide)
  have hx : b ^^^ 2 ^ (E + M) < 18446744073709551616 := Nat.xor_lt_two_pow (n := 64) hb p1
  have HSI : Hid (∀ w, Calls Oajg.prog 105 #[.agg #[.int .u8 (E : Int), .int .u8 (M : Int)]] w fun e w' => e = .returned (.int .u64 ((2 ^ (E + M) : Nat) : Int)) ∧ Below w.heap.size w w') := signBit_ok E M h
  have HAD := hidden (addS_ok E M h mo a (b ^^^ 2 ^ (E + M)) ha hx)
  have kX : bits .xor .u64 (b : Int) ((2 ^ (E + M) : Nat) : Int) = ((b ^^^ 2 ^ (E + M) : Nat) : Int) := xor_u64 _ _ hb p1
  have hF := sf_box w E M
  clear h
  generalize adN E M mo a (b ^^^ 2 ^ (E + M)) = RN at *
  generalize b ^^^ 2 ^ (E + M) = BX at *
  generalize 2 ^ (E + M) = PP at *
  go_enter Oajg.func144, Oajg.ntmps144
  go_wp2_with fail
  go_region_held3 (fun W => W.cell? ⟨w.heap.size, 0, none⟩ = some (.int .u8 (E : Int)) ∧ W.cell? ⟨w.heap.size, 1, none⟩ = some (.int .u8 (M : Int)) ∧ w.heap.size < W.heap.size ∧ Below w.heap.size w W)
    ((repeat' (first | with_reducible assumption | with_reducible refine sf_drew ?_)))
    ((first | (go_at_call 105; refine Calls.mono (HSI.out _) ?_; rintro _ w1 ⟨rfl, hb⟩; have hS1 := sf_next (by with_reducible assumption) hb; clear hb) | (go_at_call 143; refine Calls.mono (HAD.out _) ?_; rintro _ w2 ⟨fl, rfl, hb⟩; have hS2 := sf_next (by with_reducible assumption) hb; clear hb)))
  go_wp2_with fail
  go_ret2
  exact ⟨_, rfl, hS2.2.2.2⟩
set_option maxRecDepth 100000 in
set_option maxHeartbeats 2000000 in
theorem subX_ok (E M : Nat) (h : FOk E M) (mo a b : Nat) (ha : a < 18446744073709551616) (hb : b < 18446744073709551616) (w : World) : Calls Oajg.prog 148 #[.agg #[.int .u8 (E : Int), .int .u8 (M : Int)], .int .u8 (mo : Int), .int .u64 (a : Int), .int .u64 (b : Int)] w fun e w' => ∃ fl, e = .returned (.tuple #[.int .u64 (adN E M mo a (b ^^^ 2 ^ (E + M)) : Nat), .int .u8 fl]) ∧ Below w.heap.size w w' := by
  have p1 : 2 ^ (E + M) < 18446744073709551616 := by
    have := h.e11
    have := h.m52
    exact Nat.lt_of_le_of_lt (Nat.pow_le_pow_right (by decide) (show E + M ≤ 63 by omega)) (by decide)
  have hx : b ^^^ 2 ^ (E + M) < 18446744073709551616 := Nat.xor_lt_two_pow (n := 64) hb p1
  have HSI : Hid (∀ w, Calls Oajg.prog 105 #[.agg #[.int .u8 (E : Int), .int .u8 (M : Int)]] w fun e w' => e = .returned (.int .u64 ((2 ^ (E + M) : Nat) : Int)) ∧ Below w.heap.size w w') := signBit_ok E M h
  have HAD := hidden (addX_ok E M h mo a (b ^^^ 2 ^ (E + M)) ha hx)
  have kX : bits .xor .u64 (b : Int) ((2 ^ (E + M) : Nat) : Int) = ((b ^^^ 2 ^ (E + M) : Nat) : Int) := xor_u64 _ _ hb p1
  have hF := sf_box w E M
  clear h
  generalize adN E M mo a (b ^^^ 2 ^ (E + M)) = RN at *
  generalize b ^^^ 2 ^ (E + M) = BX at *
  generalize 2 ^ (E + M) = PP at *
  go_enter Oajg.func148, Oajg.ntmps148
  go_wp2_with fail
  go_region_held3 (fun W => W.cell? ⟨w.heap.size, 0, none⟩ = some (.int .u8 (E : Int)) ∧ W.cell? ⟨w.heap.size, 1, none⟩ = some (.int .u8 (M : Int)) ∧ w.heap.size < W.heap.size ∧ Below w.heap.size w W)
    ((repeat' (first | with_reducible assumption | with_reducible refine sf_drew ?_)))
    ((first | (go_at_call 105; refine Calls.mono (HSI.out _) ?_; rintro _ w1 ⟨rfl, hb⟩; have hS1 := sf_next (by with_reducible assumption) hb; clear hb) | (go_at_call 147; refine Calls.mono (HAD.out _) ?_; rintro _ w2 ⟨fl, rfl, hb⟩; have hS2 := sf_next (by with_reducible assumption) hb; clear hb)))
  go_wp2_with fail
  go_ret2
  exact ⟨_, rfl, hS2.2.2.2⟩
set_option maxRecDepth 100000 in
set_option maxHeartbeats 1000000 in
theorem add_wrap (E M mo a b RN : Nat) (HC : ∀ w, Calls Oajg.prog 143 #[.agg #[.int .u8 (E : Int), .int .u8 (M : Int)], .int .u8 (mo : Int), .int .u64 (a : Int), .int .u64 (b : Int)] w fun e w' => ∃ fl, e = .returned (.tuple #[.int .u64 (RN : Nat), .int .u8 fl]) ∧ Below w.heap.size w w') (w : World) : Calls Oajg.prog 93 #[.agg #[.int .u8 (E : Int), .int .u8 (M : Int)], .int .u8 (mo : Int), .int .u64 (a : Int), .int .u64 (b : Int)] w fun e w' => e = .returned (.int .u64 (RN : Nat)) ∧ Below w.heap.size w w' := by
  have hF := sf_box w E M
  replace HC := hidden HC
  go_enter Oajg.func93, Oajg.ntmps93
  go_wp2_with fail
  refine Calls.mono (HC.out _) ?_
  rintro _ w1 ⟨fl, rfl, hb⟩
  replace hF := sf_next hF hb
  clear hb
  go_wp2_with fail
  go_ret
  exact ⟨rfl, hF.2.2.2⟩
set_option maxRecDepth 100000 in
set_option maxHeartbeats 1000000 in
theorem sub_wrap (E M mo a b RN : Nat) (HC : ∀ w, Calls Oajg.prog 144 #[.agg #[.int .u8 (E : Int), .int .u8 (M : Int)], .int .u8 (mo : Int), .int .u64 (a : Int), .int .u64 (b : Int)] w fun e w' => ∃ fl, e = .returned (.tuple #[.int .u64 (RN : Nat), .int .u8 fl]) ∧ Below w.heap.size w w') (w : World) : Calls Oajg.prog 94 #[.agg #[.int .u8 (E : Int), .int .u8 (M : Int)], .int .u8 (mo : Int), .int .u64 (a : Int), .int .u64 (b : Int)] w fun e w' => e = .returned (.int .u64 (RN : Nat)) ∧ Below w.heap.size w w' := by
  have hF := sf_box w E M
  replace HC := hidden HC
  go_enter Oajg.func94, Oajg.ntmps94
  go_wp2_with fail
  refine Calls.mono (HC.out _) ?_
  rintro _ w1 ⟨fl, rfl, hb⟩
  replace hF := sf_next hF hb
  clear hb
  go_wp2_with fail
  go_ret
  exact ⟨rfl, hF.2.2.2⟩
set_option maxRecDepth 100000 in
set_option maxHeartbeats 1000000 in
theorem mul_wrap (E M mo a b RN : Nat) (HC : ∀ w, Calls Oajg.prog 145 #[.agg #[.int .u8 (E : Int), .int .u8 (M : Int)], .int .u8 (mo : Int), .int .u64 (a : Int), .int .u64 (b : Int)] w fun e w' => ∃ fl, e = .returned (.tuple #[.int .u64 (RN : Nat), .int .u8 fl]) ∧ Below w.heap.size w w') (w : World) : Calls Oajg.prog 95 #[.agg #[.int .u8 (E : Int), .int .u8 (M : Int)], .int .u8 (mo : Int), .int .u64 (a : Int), .int .u64 (b : Int)] w fun e w' => e = .returned (.int .u64 (RN : Nat)) ∧ Below w.heap.size w w' := by
  have hF := sf_box w E M
  replace HC := hidden HC
  go_enter Oajg.func95, Oajg.ntmps95
  go_wp2_with fail
  refine Calls.mono (HC.out _) ?_
  rintro _ w1 ⟨fl, rfl, hb⟩
  replace hF := sf_next hF hb
  clear hb
  go_wp2_with fail
  go_ret
  exact ⟨rfl, hF.2.2.2⟩
set_option maxRecDepth 100000 in
set_option maxHeartbeats 1000000 in
theorem div_wrap (E M mo a b RN : Nat) (HC : ∀ w, Calls Oajg.prog 146 #[.agg #[.int .u8 (E : Int), .int .u8 (M : Int)], .int .u8 (mo : Int), .int .u64 (a : Int), .int .u64 (b : Int)] w fun e w' => ∃ fl, e = .returned (.tuple #[.int .u64 (RN : Nat), .int .u8 fl]) ∧ Below w.heap.size w w') (w : World) : Calls Oajg.prog 96 #[.agg #[.int .u8 (E : Int), .int .u8 (M : Int)], .int .u8 (mo : Int), .int .u64 (a : Int), .int .u64 (b : Int)] w fun e w' => e = .returned (.int .u64 (RN : Nat)) ∧ Below w.heap.size w w' := by
  have hF := sf_box w E M
  replace HC := hidden HC
  go_enter Oajg.func96, Oajg.ntmps96
  go_wp2_with fail
  refine Calls.mono (HC.out _) ?_
  rintro _ w1 ⟨fl, rfl, hb⟩
  replace hF := sf_next hF hb
  clear hb
  go_wp2_with fail
  go_ret
  exact ⟨rfl, hF.2.2.2⟩
set_option maxRecDepth 100000 in
set_option maxHeartbeats 1000000 in
theorem addx_wrap (E M mo a b RN : Nat) (HC : ∀ w, Calls Oajg.prog 147 #[.agg #[.int .u8 (E : Int), .int .u8 (M : Int)], .int .u8 (mo : Int), .int .u64 (a : Int), .int .u64 (b : Int)] w fun e w' => ∃ fl, e = .returned (.tuple #[.int .u64 (RN : Nat), .int .u8 fl]) ∧ Below w.heap.size w w') (w : World) : Calls Oajg.prog 97 #[.agg #[.int .u8 (E : Int), .int .u8 (M : Int)], .int .u8 (mo : Int), .int .u64 (a : Int), .int .u64 (b : Int)] w fun e w' => e = .returned (.int .u64 (RN : Nat)) ∧ Below w.heap.size w w' := by
  have hF := sf_box w E M
  replace HC := hidden HC
  go_enter Oajg.func97, Oajg.ntmps97
  go_wp2_with fail
  refine Calls.mono (HC.out _) ?_
  rintro _ w1 ⟨fl, rfl, hb⟩
  replace hF := sf_next hF hb
  clear hb
  go_wp2_with fail
  go_ret
  exact ⟨rfl, hF.2.2.2⟩
set_option maxRecDepth 100000 in
set_option maxHeartbeats 1000000 in
theorem subx_wrap (E M mo a b RN : Nat) (HC : ∀ w, Calls Oajg.prog 148 #[.agg #[.int .u8 (E : Int), .int .u8 (M : Int)], .int .u8 (mo : Int), .int .u64 (a : Int), .int .u64 (b : Int)] w fun e w' => ∃ fl, e = .returned (.tuple #[.int .u64 (RN : Nat), .int .u8 fl]) ∧ Below w.heap.size w w') (w : World) : Calls Oajg.prog 98 #[.agg #[.int .u8 (E : Int), .int .u8 (M : Int)], .int .u8 (mo : Int), .int .u64 (a : Int), .int .u64 (b : Int)] w fun e w' => e = .returned (.int .u64 (RN : Nat)) ∧ Below w.heap.size w w' := by
  have hF := sf_box w E M
  replace HC := hidden HC
  go_enter Oajg.func98, Oajg.ntmps98
  go_wp2_with fail
  refine Calls.mono (HC.out _) ?_
  rintro _ w1 ⟨fl, rfl, hb⟩
  replace hF := sf_next hF hb
  clear hb
  go_wp2_with fail
  go_ret
  exact ⟨rfl, hF.2.2.2⟩
set_option maxRecDepth 100000 in
set_option maxHeartbeats 1000000 in
theorem mulx_wrap (E M mo a b RN : Nat) (HC : ∀ w, Calls Oajg.prog 149 #[.agg #[.int .u8 (E : Int), .int .u8 (M : Int)], .int .u8 (mo : Int), .int .u64 (a : Int), .int .u64 (b : Int)] w fun e w' => ∃ fl, e = .returned (.tuple #[.int .u64 (RN : Nat), .int .u8 fl]) ∧ Below w.heap.size w w') (w : World) : Calls Oajg.prog 99 #[.agg #[.int .u8 (E : Int), .int .u8 (M : Int)], .int .u8 (mo : Int), .int .u64 (a : Int), .int .u64 (b : Int)] w fun e w' => e = .returned (.int .u64 (RN : Nat)) ∧ Below w.heap.size w w' := by
  have hF := sf_box w E M
  replace HC := hidden HC
  go_enter Oajg.func99, Oajg.ntmps99
  go_wp2_with fail
  refine Calls.mono (HC.out _) ?_
  rintro _ w1 ⟨fl, rfl, hb⟩
  replace hF := sf_next hF hb
  clear hb
  go_wp2_with fail
  go_ret
  exact ⟨rfl, hF.2.2.2⟩
set_option maxRecDepth 100000 in
set_option maxHeartbeats 1000000 in
theorem divx_wrap (E M mo a b RN : Nat) (HC : ∀ w, Calls Oajg.prog 150 #[.agg #[.int .u8 (E : Int), .int .u8 (M : Int)], .int .u8 (mo : Int), .int .u64 (a : Int), .int .u64 (b : Int)] w fun e w' => ∃ fl, e = .returned (.tuple #[.int .u64 (RN : Nat), .int .u8 fl]) ∧ Below w.heap.size w w') (w : World) : Calls Oajg.prog 100 #[.agg #[.int .u8 (E : Int), .int .u8 (M : Int)], .int .u8 (mo : Int), .int .u64 (a : Int), .int .u64 (b : Int)] w fun e w' => e = .returned (.int .u64 (RN : Nat)) ∧ Below w.heap.size w w' := by
  have hF := sf_box w E M
  replace HC := hidden HC
  go_enter Oajg.func100, Oajg.ntmps100
  go_wp2_with fail
  refine Calls.mono (HC.out _) ?_
  rintro _ w1 ⟨fl, rfl, hb⟩
  replace hF := sf_next hF hb
  clear hb
  go_wp2_with fail
  go_ret
  exact ⟨rfl, hF.2.2.2⟩
set_option maxRecDepth 100000 in
set_option maxHeartbeats 2000000 in
theorem softBin_ok (E M mo op a b F0 F1 F2 F3 : Nat) (hop : op < 256) (H0 : ∀ w, Calls Oajg.prog 93 #[.agg #[.int .u8 (E : Int), .int .u8 (M : Int)], .int .u8 (mo : Int), .int .u64 (a : Int), .int .u64 (b : Int)] w fun e w' => e = .returned (.int .u64 (F0 : Nat)) ∧ Below w.heap.size w w') (H1 : ∀ w, Calls Oajg.prog 94 #[.agg #[.int .u8 (E : Int), .int .u8 (M : Int)], .int .u8 (mo : Int), .int .u64 (a : Int), .int .u64 (b : Int)] w fun e w' => e = .returned (.int .u64 (F1 : Nat)) ∧ Below w.heap.size w w') (H2 : ∀ w, Calls Oajg.prog 95 #[.agg #[.int .u8 (E : Int), .int .u8 (M : Int)], .int .u8 (mo : Int), .int .u64 (a : Int), .int .u64 (b : Int)] w fun e w' => e = .returned (.int .u64 (F2 : Nat)) ∧ Below w.heap.size w w') (H3 : ∀ w, Calls Oajg.prog 96 #[.agg #[.int .u8 (E : Int), .int .u8 (M : Int)], .int .u8 (mo : Int), .int .u64 (a : Int), .int .u64 (b : Int)] w fun e w' => e = .returned (.int .u64 (F3 : Nat)) ∧ Below w.heap.size w w') (w : World) : Calls Oajg.prog 50 #[.agg #[.int .u8 (E : Int), .int .u8 (M : Int)], .int .u8 (mo : Int), .int .u8 (op : Int), .int .u64 (a : Int), .int .u64 (b : Int)] w fun e w' => e = .returned (.int .u64 ((if op % 4 = 0 then F0 else if op % 4 = 1 then F1 else if op % 4 = 2 then F2 else F3 : Nat) : Int)) ∧ Below w.heap.size w w' := by
  have hF := sf_box w E M
  replace H0 := hidden H0
  replace H1 := hidden H1
  replace H2 := hidden H2
  replace H3 := hidden H3
  have kA : bits .and .u8 (op : Int) 3 = ((op % 4 : Nat) : Int) := by
    have e : bits .and .u8 (op : Int) ((3 : Nat) : Int) = ((op &&& 3 : Nat) : Int) := by
      have e1 : (BitVec.ofInt 8 (op : Int) &&& BitVec.ofInt 8 ((3 : Nat) : Int)).toNat = op &&& 3 := by
        rw [BitVec.toNat_and, BitVec.toNat_ofInt, BitVec.toNat_ofInt]
        congr 1; omega
      show IntKind.u8.wrap ((BitVec.ofInt 8 (op : Int) &&& BitVec.ofInt 8 ((3 : Nat) : Int)).toNat : Int) = _
      have hle : op &&& 3 ≤ 3 := Nat.and_le_right
      rw [e1, IntKind.wrap_u8]; omega
    rw [show op &&& 3 = op % 4 from Nat.and_two_pow_sub_one_eq_mod op 2] at e
    exact e
  have hlt : op % 4 < 4 := Nat.mod_lt _ (by decide)
  obtain ⟨k, hk⟩ : ∃ k, k = op % 4 := ⟨_, rfl⟩
  rw [← hk] at kA hlt ⊢
  clear hk
  have hcase : k = 0 ∨ k = 1 ∨ k = 2 ∨ k = 3 := by omega
  rcases hcase with rfl | rfl | rfl | rfl
  · replace kA : bits .and .u8 (op : Int) 3 = 0 := kA
    go_enter Oajg.func50, Oajg.ntmps50
    go_wp2_with fail
    refine Calls.mono (H0.out _) ?_
    rintro _ w1 ⟨rfl, hb⟩
    replace hF := sf_next hF hb
    clear hb
    go_wp2_with fail
    go_ret
    exact ⟨rfl, hF.2.2.2⟩
  · replace kA : bits .and .u8 (op : Int) 3 = 1 := kA
    go_enter Oajg.func50, Oajg.ntmps50
    go_wp2_with fail
    refine Calls.mono (H1.out _) ?_
    rintro _ w1 ⟨rfl, hb⟩
    replace hF := sf_next hF hb
    clear hb
    go_wp2_with fail
    go_ret
    exact ⟨rfl, hF.2.2.2⟩
  · replace kA : bits .and .u8 (op : Int) 3 = 2 := kA
    go_enter Oajg.func50, Oajg.ntmps50
    go_wp2_with fail
    refine Calls.mono (H2.out _) ?_
    rintro _ w1 ⟨rfl, hb⟩
    replace hF := sf_next hF hb
    clear hb
    go_wp2_with fail
    go_ret
    exact ⟨rfl, hF.2.2.2⟩
  · replace kA : bits .and .u8 (op : Int) 3 = 3 := kA
    go_enter Oajg.func50, Oajg.ntmps50
    go_wp2_with fail
    refine Calls.mono (H3.out _) ?_
    rintro _ w1 ⟨rfl, hb⟩
    replace hF := sf_next hF hb
    clear hb
    go_wp2_with fail
    go_ret
    exact ⟨rfl, hF.2.2.2⟩
set_option maxRecDepth 100000 in
set_option maxHeartbeats 2000000 in
theorem exactBin_ok (E M mo op a b F0 F1 F2 F3 : Nat) (hop : op < 256) (H0 : ∀ w, Calls Oajg.prog 97 #[.agg #[.int .u8 (E : Int), .int .u8 (M : Int)], .int .u8 (mo : Int), .int .u64 (a : Int), .int .u64 (b : Int)] w fun e w' => e = .returned (.int .u64 (F0 : Nat)) ∧ Below w.heap.size w w') (H1 : ∀ w, Calls Oajg.prog 98 #[.agg #[.int .u8 (E : Int), .int .u8 (M : Int)], .int .u8 (mo : Int), .int .u64 (a : Int), .int .u64 (b : Int)] w fun e w' => e = .returned (.int .u64 (F1 : Nat)) ∧ Below w.heap.size w w') (H2 : ∀ w, Calls Oajg.prog 99 #[.agg #[.int .u8 (E : Int), .int .u8 (M : Int)], .int .u8 (mo : Int), .int .u64 (a : Int), .int .u64 (b : Int)] w fun e w' => e = .returned (.int .u64 (F2 : Nat)) ∧ Below w.heap.size w w') (H3 : ∀ w, Calls Oajg.prog 100 #[.agg #[.int .u8 (E : Int), .int .u8 (M : Int)], .int .u8 (mo : Int), .int .u64 (a : Int), .int .u64 (b : Int)] w fun e w' => e = .returned (.int .u64 (F3 : Nat)) ∧ Below w.heap.size w w') (w : World) : Calls Oajg.prog 51 #[.agg #[.int .u8 (E : Int), .int .u8 (M : Int)], .int .u8 (mo : Int), .int .u8 (op : Int), .int .u64 (a : Int), .int .u64 (b : Int)] w fun e w' => e = .returned (.int .u64 ((if op % 4 = 0 then F0 else if op % 4 = 1 then F1 else if op % 4 = 2 then F2 else F3 : Nat) : Int)) ∧ Below w.heap.size w w' := by
  have hF := sf_box w E M
  replace H0 := hidden H0
  replace H1 := hidden H1
  replace H2 := hidden H2
  replace H3 := hidden H3
  have kA : bits .and .u8 (op : Int) 3 = ((op % 4 : Nat) : Int) := by
    have e : bits .and .u8 (op : Int) ((3 : Nat) : Int) = ((op &&& 3 : Nat) : Int) := by
      have e1 : (BitVec.ofInt 8 (op : Int) &&& BitVec.ofInt 8 ((3 : Nat) : Int)).toNat = op &&& 3 := by
        rw [BitVec.toNat_and, BitVec.toNat_ofInt, BitVec.toNat_ofInt]
        congr 1; omega
      show IntKind.u8.wrap ((BitVec.ofInt 8 (op : Int) &&& BitVec.ofInt 8 ((3 : Nat) : Int)).toNat : Int) = _
      have hle : op &&& 3 ≤ 3 := Nat.and_le_right
      rw [e1, IntKind.wrap_u8]; omega
    rw [show op &&& 3 = op % 4 from Nat.and_two_pow_sub_one_eq_mod op 2] at e
    exact e
  have hlt : op % 4 < 4 := Nat.mod_lt _ (by decide)
  obtain ⟨k, hk⟩ : ∃ k, k = op % 4 := ⟨_, rfl⟩
  rw [← hk] at kA hlt ⊢
  clear hk
  have hcase : k = 0 ∨ k = 1 ∨ k = 2 ∨ k = 3 := by omega
  rcases hcase with rfl | rfl | rfl | rfl
  · replace kA : bits .and .u8 (op : Int) 3 = 0 := kA
    go_enter Oajg.func51, Oajg.ntmps51
    go_wp2_with fail
    refine Calls.mono (H0.out _) ?_
    rintro _ w1 ⟨rfl, hb⟩
    replace hF := sf_next hF hb
    clear hb
    go_wp2_with fail
    go_ret
    exact ⟨rfl, hF.2.2.2⟩
  · replace kA : bits .and .u8 (op : Int) 3 = 1 := kA
    go_enter Oajg.func51, Oajg.ntmps51
    go_wp2_with fail
    refine Calls.mono (H1.out _) ?_
    rintro _ w1 ⟨rfl, hb⟩
    replace hF := sf_next hF hb
    clear hb
    go_wp2_with fail
    go_ret
    exact ⟨rfl, hF.2.2.2⟩
  · replace kA : bits .and .u8 (op : Int) 3 = 2 := kA
    go_enter Oajg.func51, Oajg.ntmps51
    go_wp2_with fail
    refine Calls.mono (H2.out _) ?_
    rintro _ w1 ⟨rfl, hb⟩
    replace hF := sf_next hF hb
    clear hb
    go_wp2_with fail
    go_ret
    exact ⟨rfl, hF.2.2.2⟩
  · replace kA : bits .and .u8 (op : Int) 3 = 3 := kA
    go_enter Oajg.func51, Oajg.ntmps51
    go_wp2_with fail
    refine Calls.mono (H3.out _) ?_
    rintro _ w1 ⟨rfl, hb⟩
    replace hF := sf_next hF hb
    clear hb
    go_wp2_with fail
    go_ret
    exact ⟨rfl, hF.2.2.2⟩

end Go.Proofs.Ygcoaj
