/-
  PLAIN: soft's square root is exact's.
-/
import Derived.Test.YgcoajSq2
import Derived.Test.YgcoajSq4
import Derived.Test.YgcoajXsLawB
set_option linter.unusedVariables false
set_option linter.unusedSimpArgs false
namespace Go.Proofs.Ygcoaj
open Go.RowKit

theorem sq_lt {a b : Nat} (h : a * a < b * b) : a < b := Nat.lt_of_not_le fun hle => absurd (Nat.mul_le_mul hle hle) (by omega)
theorem root_one {x a b : Nat} (ha : IsRoot x a) (hb : IsRoot x b) : a = b := by
  have h1 := sq_lt (Nat.lt_of_le_of_lt ha.1 hb.2)
  have h2 := sq_lt (Nat.lt_of_le_of_lt hb.1 ha.2)
  omega
/-- the root of the number cut by a square -/
theorem root_cut {V r P : Nat} (hP : 0 < P) (h : IsRoot V r) : IsRoot (V / (P * P)) (r / P) := by
  obtain ⟨h1, h2⟩ := h
  have hPP : 0 < P * P := Nat.mul_pos hP hP
  have e1 := Nat.div_mul_le_self r P
  constructor
  · rw [Nat.le_div_iff_mul_le hPP]
    refine Nat.le_trans ?_ h1
    have := Nat.mul_le_mul e1 e1
    have e2 : r / P * (r / P) * (P * P) = r / P * P * (r / P * P) := by grind
    omega
  · rw [Nat.div_lt_iff_lt_mul hPP]
    refine Nat.lt_of_lt_of_le h2 ?_
    have e3 : r + 1 ≤ (r / P + 1) * P := by
      have := Nat.lt_div_mul_add hP (a := r)
      rw [Nat.add_mul, Nat.one_mul]; omega
    have := Nat.mul_le_mul e3 e3
    have e2 : (r / P + 1) * (r / P + 1) * (P * P) = (r / P + 1) * P * ((r / P + 1) * P) := by grind
    omega
theorem cmpZ_sq {a b : Nat} : cmpZ (a * a) (b * b) = cmpZ a b := by
  rcases Nat.lt_trichotomy a b with h | h | h
  · rw [cmpZ_lt h, cmpZ_lt (Nat.mul_self_lt_mul_self h)]
  · rw [h, cmpZ_eq rfl, cmpZ_eq rfl]
  · rw [cmpZ_gt h, cmpZ_gt (Nat.mul_self_lt_mul_self h)]
/-- the sticky root cut at an even place -/
theorem stk_div {V r Q : Nat} (hQ : 0 < Q) : stk V r / (2 * Q) = r / (2 * Q) := by
  unfold stk
  split
  · rfl
  · rw [← Nat.div_div_eq_div_mul, ← Nat.div_div_eq_div_mul]
    congr 1
    omega
theorem stk_cmp {V r H : Nat} (h : IsRoot V r) : cmpZ (stk V r) (2 * H) = cmpZ V (2 * H * (2 * H)) := by
  unfold stk
  obtain ⟨h1, h2⟩ := h
  by_cases he : r * r = V
  · rw [if_pos he, ← he, cmpZ_sq]
  · rw [if_neg he]
    rcases Nat.lt_or_ge r (2 * H) with hc | hc
    · have hlt : V < 2 * H * (2 * H) := Nat.lt_of_lt_of_le h2 (Nat.mul_le_mul hc hc)
      rw [cmpZ_lt hlt, cmpZ_lt (by omega)]
    · have hgt : 2 * H * (2 * H) < V := by
        have := Nat.mul_le_mul hc hc
        omega
      rw [cmpZ_gt hgt, cmpZ_gt (by omega)]
/-- what the cut leaves, against half -/
theorem stk_half {V r Q : Nat} (hQ : 0 < Q) (h : IsRoot V r) : hfX (stk V r) (2 * (2 * Q)) = cmpZ (4 * V) ((2 * (r / (2 * (2 * Q))) + 1) * (2 * (r / (2 * (2 * Q))) + 1) * ((2 * (2 * Q)) * (2 * (2 * Q)))) := by
  unfold hfX
  have e0 := stk_div (V := V) (r := r) (Q := 2 * Q) (by omega)
  obtain ⟨n, hn⟩ : ∃ n, n = r / (2 * (2 * Q)) := ⟨_, rfl⟩
  rw [← hn] at e0 ⊢
  have e1 := Nat.div_add_mod (stk V r) (2 * (2 * Q))
  rw [e0] at e1
  have e2 : (2 * n + 1) * (2 * n + 1) * ((2 * (2 * Q)) * (2 * (2 * Q))) = 4 * (2 * ((2 * n + 1) * Q) * (2 * ((2 * n + 1) * Q))) := by grind
  rw [e2, Nat.mul_comm 4 V, Nat.mul_comm 4, cmpZ_scale (by decide), ← stk_cmp h]
  have e3 : 2 * ((2 * n + 1) * Q) = 2 * (2 * Q) * n + 2 * Q := by grind
  rw [e3]
  generalize stk V r % (2 * (2 * Q)) = m at e1 ⊢
  generalize 2 * (2 * Q) * n = z at e1 ⊢
  rcases Nat.lt_trichotomy m (2 * Q) with c1 | c1 | c1
  · rw [cmpZ_lt (show m * 2 < 2 * (2 * Q) by omega), cmpZ_lt (by omega)]
  · rw [cmpZ_eq (show m * 2 = 2 * (2 * Q) by omega), cmpZ_eq (by omega)]
  · rw [cmpZ_gt (show 2 * (2 * Q) < m * 2 by omega), cmpZ_gt (by omega)]
theorem stk_some {V r Q : Nat} (hQ : 0 < Q) (h : IsRoot V r) : smX (stk V r) (2 * Q) = decide (r / (2 * Q) * (r / (2 * Q)) * ((2 * Q) * (2 * Q)) ≠ V) := by
  unfold smX
  have e0 := stk_div (V := V) (r := r) hQ
  obtain ⟨n, hn⟩ : ∃ n, n = r / (2 * Q) := ⟨_, rfl⟩
  rw [← hn] at e0 ⊢
  have e1 := Nat.div_add_mod (stk V r) (2 * Q)
  rw [e0] at e1
  have e2 : n * n * (2 * Q * (2 * Q)) = 2 * Q * n * (2 * Q * n) := by grind
  rw [e2]
  have e3 : 2 * Q * n = 2 * (Q * n) := Nat.mul_assoc _ _ _
  by_cases c : stk V r % (2 * Q) = 0
  · rw [c] at e1
    have : r * r = V := by
      by_cases he : r * r = V
      · exact he
      · unfold stk at e1; rw [if_neg he] at e1; omega
    have hs : stk V r = r := by unfold stk; rw [if_pos this]
    rw [hs] at e1
    have e5 : 2 * Q * n = r := by omega
    rw [c, e5, this]; simp
  · have : 2 * Q * n * (2 * Q * n) ≠ V := by
      intro hv
      have hr : IsRoot V (2 * Q * n) := ⟨Nat.le_of_eq hv, by rw [← hv]; exact Nat.mul_self_lt_mul_self (by omega)⟩
      have := root_one h hr
      unfold stk at e1
      rw [this, if_pos hv] at e1
      have hh : stk V r = r := by unfold stk; rw [if_pos (by rw [this]; exact hv)]
      rw [hh, this] at c
      omega
    simp [c, this]

theorem v_expS {E M a : Nat} (h : FOk E M) (ho : lbOk E M a = true) : 1 - (biasN E : Int) - (M : Int) ≤ upE E M a + (M : Int) ∧ upE E M a + (M : Int) ≤ (biasN E : Int) := by
  have hbE := bias_pow h.e2
  have hx : fExp E M a < 2 ^ E := Nat.mod_lt _ (pp E)
  have hm : fMan M a < 2 ^ M := Nat.mod_lt _ (pow2_pos M)
  unfold lbOk at ho
  simp only [Bool.or_eq_true, decide_eq_true_eq] at ho
  unfold upE
  rcases ho with h1 | h2
  · rw [if_pos h1]
    have hm0 : fMan M a ≠ 0 := by
      intro h0
      unfold upC at h1
      rw [h0] at h1
      simp at h1
      split at h1
      · omega
      · split at h1 <;> omega
    have a3 := bitLen_pos hm0
    have a4 : bitLen (fMan M a) ≤ M := bitLen_le_of_lt hm
    omega
  · rw [if_neg (by omega), if_pos h2]
    have hx2 : fExp E M a ≠ 2 ^ E - 1 ∧ fExp E M a ≠ 0 := by
      unfold upC at h2
      constructor
      · intro hc
        rw [if_pos hc] at h2
        split at h2 <;> omega
      · intro hc
        split at h2
        · split at h2 <;> omega
        · first
            | (rw [if_pos hc] at h2; split at h2 <;> omega)
            | (split at h2 <;> omega)
    omega

/-! ### exact's parts -/
def sqR (E M a : Nat) : Int := (upE E M a + (M : Int)) / 2
def sqE (E M a : Nat) : Int := max (sqR E M a) (1 - (biasN E : Int))
def sqJ (E M a : Nat) : Int := 2 * ((M : Int) - sqE E M a)
def sqNum (E M a : Nat) (J : Int) : Nat := vNum E M a * 2 ^ J.toNat
def sqDen (E M a : Nat) (J : Int) : Nat := vDen E M a * 2 ^ (-J).toNat
theorem sq_lg {E M a : Nat} (h : FOk E M) (ho : lbOk E M a = true) : lg2 (vNum E M a) (vDen E M a) (2 * (1 - (biasN E : Int)) - 200) (2 * (biasN E : Int)) = upE E M a + (M : Int) := by
  have hb1 := biasN_pos h.e2
  have hM := h.m52
  have := v_expS h ho
  rw [lg2_eq (v_ne h ho) (vDen_ne E M a) (by omega) (v_low h ho) (v_up h ho)]
  omega

theorem sqV_eq {E M a : Nat} (h : FOk E M) : sqV E M a = upM E M a * 2 ^ (126 - M + ((upE E M a + (M : Int)) % 2).toNat) := by
  have hM := h.m52
  unfold sqV
  split
  · rename_i h0
    rw [h0, show 126 - M + (0 : Int).toNat = 63 - M + 63 by simp; omega, Nat.pow_add, ← Nat.mul_assoc]
  · rename_i h0
    rw [show (upE E M a + (M : Int)) % 2 = 1 by omega, show 126 - M + (1 : Int).toNat = 63 - M + 64 by simp; omega, Nat.pow_add, ← Nat.mul_assoc]
theorem sqV_range {E M a : Nat} (h : FOk E M) (ho : lbOk E M a = true) : 2 ^ 126 ≤ sqV E M a ∧ sqV E M a < 2 ^ 128 := by
  obtain ⟨h1, h2⟩ := upM_norm h ho
  have hM := h.m52
  rw [sqV_eq h]
  have e1 : (2 : Nat) ^ 126 = 2 ^ M * 2 ^ (126 - M) := by rw [← Nat.pow_add]; congr 1; omega
  have e2 : (2 : Nat) ^ 128 = 2 ^ (M + 1) * 2 ^ (126 - M + 1) := by rw [← Nat.pow_add]; congr 1; omega
  rw [e1, e2]
  constructor
  · exact Nat.mul_le_mul h1 (Nat.pow_le_pow_right (by decide) (by omega))
  · refine Nat.lt_of_lt_of_le (Nat.mul_lt_mul_of_pos_right h2 (pp _)) (Nat.mul_le_mul_left _ (Nat.pow_le_pow_right (by decide) (by omega)))
theorem root_range {V r : Nat} (h1 : 2 ^ 126 ≤ V) (h2 : V < 2 ^ 128) (h : IsRoot V r) : 2 ^ 63 ≤ r ∧ r < 2 ^ 64 := by
  constructor
  · have : 2 ^ 63 * 2 ^ 63 < (r + 1) * (r + 1) := Nat.lt_of_le_of_lt h1 h.2
    have := sq_lt this
    omega
  · have : r * r < 2 ^ 64 * 2 ^ 64 := Nat.lt_of_le_of_lt h.1 h2
    exact sq_lt this
theorem root_some (x : Nat) : ∃ r, IsRoot x r := by
  have : ∀ k, x < (k + 1) * (k + 1) → ∃ r, IsRoot x r := by
    intro k
    induction k with
    | zero => intro h; exact ⟨0, by omega, h⟩
    | succ k ih =>
      intro h
      by_cases hc : x < (k + 1) * (k + 1)
      · exact ih hc
      · exact ⟨k + 1, by omega, h⟩
  exact this x (by have : (x + 1) * (x + 1) = x * x + 2 * x + 1 := by grind
                   omega)

/-- the law: soft's rounding of the sticky root is exact's comparing of squares -/
theorem sqrt_law {E M mo a r n : Nat} {sm tiny : Bool} (h : FOk E M) (ho : lbOk E M a = true) (hr : IsRoot (sqV E M a) r) (hn : IsRoot (sqNum E M a (sqJ E M a) / sqDen E M a (sqJ E M a)) n) :
    rpN E M mo false ((upE E M a + (M : Int)) / 2 - 63) (stk (sqV E M a) r) = pkN E M mo false (sqE E M a - (1 - (biasN E : Int))).toNat (raN mo n (sqNum E M a (sqJ E M a)) (sqDen E M a (sqJ E M a))) sm tiny := by
  have hM := h.m52
  have hb1 := biasN_pos h.e2
  obtain ⟨hx1, hx2⟩ := v_expS h ho
  obtain ⟨hv1, hv2⟩ := sqV_range h ho
  obtain ⟨hr1, hr2⟩ := root_range hv1 hv2 hr
  have hs1 : 2 ^ 63 ≤ stk (sqV E M a) r := by unfold stk; split <;> omega
  have hs2 : stk (sqV E M a) r < 2 ^ 64 := stk_lt hr2
  have hbl : bitLen (stk (sqV E M a) r) = 64 := by
    have a1 := bitLen_le_of_lt hs2
    have a2 := bitLen_lt (stk (sqV E M a) r)
    have a3 := (Nat.pow_lt_pow_iff_right (a := 2) (by decide)).1 (Nat.lt_of_le_of_lt hs1 a2)
    omega
  have eR : rpR ((upE E M a + (M : Int)) / 2 - 63) (stk (sqV E M a) r) = sqR E M a := by unfold rpR sqR; rw [hbl]; omega
  have eS : rpS (stk (sqV E M a) r) = stk (sqV E M a) r := by unfold rpS; rw [hbl]; simp
  have eE : rpE E ((upE E M a + (M : Int)) / 2 - 63) (stk (sqV E M a) r) = sqE E M a := by unfold rpE sqE; rw [eR]
  have hEr : sqR E M a ≤ sqE E M a ∧ sqE E M a ≤ (biasN E : Int) := by
    unfold sqE sqR; omega
  obtain ⟨K, hK⟩ : ∃ K, K = rpK E M ((upE E M a + (M : Int)) / 2 - 63) (stk (sqV E M a) r) := ⟨_, rfl⟩
  have hK2 : (K : Int) = 63 - (M : Int) + sqE E M a - sqR E M a := by rw [hK]; unfold rpK; rw [eE, eR]; omega
  have hK11 : 11 ≤ K := by omega
  obtain ⟨Q, hQ, hQ0⟩ : ∃ Q, 2 ^ K = 2 * (2 * Q) ∧ 0 < Q := ⟨2 ^ (K - 2), by rw [← Nat.pow_succ', ← Nat.pow_succ']; congr 1; omega, pp _⟩
  -- the ratio
  obtain ⟨num, hnum⟩ : ∃ num, num = sqNum E M a (sqJ E M a) := ⟨_, rfl⟩
  obtain ⟨den, hden⟩ : ∃ den, den = sqDen E M a (sqJ E M a) := ⟨_, rfl⟩
  have hden0 : 0 < den := by rw [hden]; exact Nat.mul_pos (Nat.pos_of_ne_zero (vDen_ne _ _ _)) (pp _)
  have hrat : num * (2 ^ K * 2 ^ K) = sqV E M a * den := by
    have hJ : sqJ E M a = 2 * ((M : Int) - sqE E M a) := rfl
    have hRL : sqR E M a = (upE E M a + (M : Int)) / 2 := rfl
    rw [hnum, hden, sqV_eq h]
    unfold sqNum sqDen vNum vDen
    rw [← Nat.pow_add, ← Nat.pow_add, Nat.mul_assoc, Nat.mul_assoc, Nat.mul_assoc, ← Nat.pow_add, ← Nat.pow_add, ← Nat.pow_add]
    congr 2
    omega
  rw [← hnum, ← hden] at hn ⊢
  have hdiv : num / den = sqV E M a / (2 ^ K * 2 ^ K) := by
    have e1 : num * (2 ^ K * 2 ^ K) / (den * (2 ^ K * 2 ^ K)) = num / den := Nat.mul_div_mul_right _ _ (Nat.mul_pos (pp K) (pp K))
    rw [← e1, hrat, Nat.mul_comm den, Nat.mul_div_mul_right _ _ hden0]
  have hnr : n = r / 2 ^ K := by
    rw [hdiv] at hn
    exact root_one hn (root_cut (pp K) hr)
  have e1 : stk (sqV E M a) r / 2 ^ K = n := by rw [hnr, hQ]; exact stk_div (by omega)
  have e2 : hfX (stk (sqV E M a) r) (2 ^ K) = raHf n num den := by
    unfold raHf
    rw [hnr, hQ, stk_half hQ0 hr, ← hQ, ← cmpZ_scale (a := 4 * sqV E M a) hden0, ← cmpZ_scale (a := num * 4) (Nat.mul_pos (pp K) (pp K))]
    congr 1
    · rw [Nat.mul_assoc 4, ← hrat]; grind
    · grind
  have e3 : smX (stk (sqV E M a) r) (2 ^ K) = raSm n num den := by
    unfold raSm
    rw [hnr, hQ, stk_some (by omega) hr, ← hQ, ← hnr, ← cmpZ_scale (a := n * n * den) (Nat.mul_pos (pp K) (pp K)), hrat]
    have e4 : n * n * den * (2 ^ K * 2 ^ K) = n * n * (2 ^ K * 2 ^ K) * den := by grind
    rw [e4, cmpZ_scale hden0]
    by_cases hc : n * n * (2 ^ K * 2 ^ K) = sqV E M a
    · rw [cmpZ_eq hc]; simp [hc]
    · have : cmpZ (n * n * (2 ^ K * 2 ^ K)) (sqV E M a) ≠ 0 := by
        rcases Nat.lt_or_gt_of_ne hc with h1 | h1
        · rw [cmpZ_lt h1]; decide
        · rw [cmpZ_gt h1]; decide
      simp [hc, this]
  unfold rpN
  rw [if_neg (by omega), eE, if_neg (by omega), eS, ← hK]
  unfold pkN rzN raN
  rw [e1, e2, e3]

theorem sqDen_ne (E M a : Nat) (J : Int) : sqDen E M a J ≠ 0 := Nat.mul_ne_zero (vDen_ne _ _ _) (Nat.ne_of_gt (pp _))
theorem sq_small {E M a : Nat} (h : FOk E M) (ho : lbOk E M a = true) : ∀ n, IsRoot (sqNum E M a (sqJ E M a) / sqDen E M a (sqJ E M a)) n → n < 2 ^ (M + 1) := by
  intro n hn
  have hM := h.m52
  have hE : sqR E M a ≤ sqE E M a := by unfold sqE; omega
  have hR : sqR E M a = (upE E M a + (M : Int)) / 2 := rfl
  have hJ : sqJ E M a = 2 * ((M : Int) - sqE E M a) := rfl
  have h1 : sqNum E M a (sqJ E M a) / sqDen E M a (sqJ E M a) < 2 ^ (M + 1) * 2 ^ (M + 1) := by
    rw [Nat.div_lt_iff_lt_mul (Nat.pos_of_ne_zero (sqDen_ne _ _ _ _))]
    by_cases hp : 0 ≤ upE E M a + (M : Int) + 1 + (sqJ E M a).toNat
    · have hv2 := v_up h ho ((sqJ E M a).toNat) (upE E M a + (M : Int) + 1 + (sqJ E M a).toNat).toNat (by omega)
      unfold sqNum sqDen
      refine Nat.lt_of_lt_of_le hv2 ?_
      rw [← Nat.pow_add, Nat.mul_comm (2 ^ _), Nat.mul_assoc, ← Nat.pow_add]
      exact Nat.mul_le_mul_left _ (Nat.pow_le_pow_right (by decide) (by omega))
    · have hv2 := v_up h ho ((sqJ E M a).toNat + (-(upE E M a + (M : Int) + 1 + (sqJ E M a).toNat)).toNat) 0 (by omega)
      unfold sqNum sqDen
      rw [mulpow] at hv2
      have h3 : vNum E M a * 2 ^ (sqJ E M a).toNat < vDen E M a * 2 ^ 0 := Nat.lt_of_le_of_lt (Nat.le_mul_of_pos_right _ (pp _)) hv2
      refine Nat.lt_of_lt_of_le h3 ?_
      rw [Nat.pow_zero, Nat.mul_one, Nat.mul_comm (2 ^ (M + 1) * 2 ^ (M + 1)), Nat.mul_assoc]
      exact Nat.le_mul_of_pos_right _ (Nat.mul_pos (pp _) (Nat.mul_pos (pp _) (pp _)))
  exact sq_lt (Nat.lt_of_le_of_lt hn.1 h1)

end Go.Proofs.Ygcoaj
