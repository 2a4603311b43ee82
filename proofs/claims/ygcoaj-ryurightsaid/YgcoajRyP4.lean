/-
  PLAIN: reading back: which numbers RoundFlags takes to a given pattern (to nearest, ties to even).
-/
import Derived.Test.YgcoajRyP3
import Derived.Test.YgcoajBn0
set_option linter.unusedVariables false
set_option linter.unusedSimpArgs false
namespace Go.Proofs.Ygcoaj
open Go.RowKit

theorem rz_two {neg : Bool} {Z A : Nat} (hA : 0 < A) : (rzN 0 neg Z A = Z / A ∧ (2 * (Z % A) < A ∨ (2 * (Z % A) = A ∧ Z / A % 2 = 0))) ∨ (rzN 0 neg Z A = Z / A + 1 ∧ (A < 2 * (Z % A) ∨ (2 * (Z % A) = A ∧ Z / A % 2 = 1))) := by
  unfold rzN rdX hfX
  simp only [show ¬ (0 = 1) from by decide, show ¬ (0 = 2) from by decide, show ¬ (0 = 3) from by decide, show ¬ (0 = 4) from by decide, if_false]
  rcases Nat.lt_trichotomy (Z % A * 2) A with h | h | h
  · left
    rw [cmpZ_lt h]
    exact ⟨by simp, Or.inl (by omega)⟩
  · have e : cmpZ (Z % A * 2) A = 0 := by unfold cmpZ; rw [if_neg (by omega), if_pos h]
    rw [e]
    rcases Nat.mod_two_eq_zero_or_one (Z / A) with h2 | h2
    · left
      refine ⟨by simp [h2], Or.inr ⟨by omega, h2⟩⟩
    · right
      refine ⟨by simp [h2], Or.inr ⟨by omega, h2⟩⟩
  · right
    have e : cmpZ (Z % A * 2) A = 1 := by unfold cmpZ; rw [if_neg (by omega), if_neg (by omega)]
    rw [e]
    exact ⟨by simp, Or.inl (by omega)⟩

theorem rz_near {neg : Bool} {Z A N : Nat} (hA : 0 < A) : rzN 0 neg Z A = N ↔ (if N % 2 = 0 then 2 * (N * A) ≤ 2 * Z + A ∧ 2 * Z ≤ 2 * (N * A) + A else 2 * (N * A) < 2 * Z + A ∧ 2 * Z < 2 * (N * A) + A) := by
  have q1 := Nat.div_add_mod Z A
  have q2 := Nat.mod_lt Z hA
  have h2 := rz_two (neg := neg) (Z := Z) hA
  obtain ⟨q, hq⟩ : ∃ q, q = Z / A := ⟨_, rfl⟩
  obtain ⟨r, hr⟩ : ∃ r, r = Z % A := ⟨_, rfl⟩
  rw [← hq, ← hr] at h2
  rw [← hq, ← hr, Nat.mul_comm] at q1
  rw [← hr] at q2
  obtain ⟨T, hT⟩ : ∃ T, T = rzN 0 neg Z A := ⟨_, rfl⟩
  rw [← hT] at h2 ⊢
  obtain ⟨qA, hqA⟩ : ∃ x, x = q * A := ⟨_, rfl⟩
  have hs : (q + 1) * A = qA + A := by rw [Nat.add_mul, Nat.one_mul, hqA]
  rw [← hqA] at q1
  constructor
  · rintro rfl
    rcases h2 with ⟨h3, h4⟩ | ⟨h3, h4⟩
    · rw [h3, ← hqA]
      split
      · exact ⟨by omega, by omega⟩
      · exact ⟨by omega, by omega⟩
    · rw [h3, hs]
      split
      · exact ⟨by omega, by omega⟩
      · exact ⟨by omega, by omega⟩
  · intro hN
    have hNA : 2 * (N * A) ≤ 2 * Z + A ∧ 2 * Z ≤ 2 * (N * A) + A := by
      split at hN
      · exact hN
      · exact ⟨by omega, by omega⟩
    have hle : N ≤ q + 1 := by
      rcases Nat.lt_or_ge (q + 1) N with hc | hc
      · exfalso
        have : (q + 1 + 1) * A ≤ N * A := Nat.mul_le_mul_right _ hc
        rw [Nat.add_mul, Nat.one_mul, hs] at this
        omega
      · exact hc
    have hge : q ≤ N := by
      rcases Nat.lt_or_ge N q with hc | hc
      · exfalso
        have : (N + 1) * A ≤ q * A := Nat.mul_le_mul_right _ hc
        rw [Nat.add_mul, Nat.one_mul, ← hqA] at this
        omega
      · exact hc
    rcases Nat.lt_or_ge q N with hc | hc
    · have e : N = q + 1 := by omega
      subst e
      rw [hs] at hN
      rcases h2 with ⟨h3, h4⟩ | ⟨h3, h4⟩
      · exfalso
        split at hN
        · omega
        · omega
      · exact h3
    · have e : N = q := by omega
      subst e
      rw [← hqA] at hN
      rcases h2 with ⟨h3, h4⟩ | ⟨h3, h4⟩
      · exact h3
      · exfalso
        split at hN
        · omega
        · omega

theorem sgnd_inj {E M : Nat} {neg : Bool} {x y : Nat} (h : sgnd E M neg x = sgnd E M neg y) : x = y := by
  unfold sgnd at h
  split at h <;> omega

/-- how far below the interval reaches, in quarters of a unit -/
def belN (M m De : Nat) : Nat := if m = 2 ^ M ∧ De ≠ 0 then 1 else 2
/-- Z/d, in units of the least, lies in the interval of m * 2^De -/
def InR (m U Z bel : Nat) : Prop := if m % 2 = 0 then 4 * (m * U) ≤ 4 * Z + bel * U ∧ 4 * Z ≤ 4 * (m * U) + 2 * U else 4 * (m * U) < 4 * Z + bel * U ∧ 4 * Z < 4 * (m * U) + 2 * U

/-- the parts of RoundFlags' answer -/
theorem rf_parts {E M : Nat} {neg : Bool} {n d : Nat} (h : FOk E M) (hn : n ≠ 0) (hd : d ≠ 0) : ∃ D N, rfN E M 0 neg n d = sgnd E M neg (if infN E M ≤ D * 2 ^ M + N then infN E M else D * 2 ^ M + N) ∧
    N = rzN 0 neg (n * 2 ^ (biasN E + M - 1)) (d * 2 ^ D) ∧ N ≤ 2 * 2 ^ M ∧ (D ≠ 0 → 2 ^ M ≤ N) ∧ (D ≠ 0 → 2 ^ M * (d * 2 ^ D) ≤ n * 2 ^ (biasN E + M - 1)) ∧ n * 2 ^ (biasN E + M - 1) < 2 * (2 ^ M * (d * 2 ^ D)) := by
  have hb1 := biasN_pos h.e2
  have hbE := bias_pow h.e2
  obtain ⟨R, hR⟩ : ∃ R, R = trueR n d := ⟨_, rfl⟩
  have hrf := rfR_true hb1 hn hd
  rw [← hR] at hrf
  obtain ⟨e, he⟩ : ∃ e, e = max R (1 - (biasN E : Int)) := ⟨_, rfl⟩
  obtain ⟨D, hD⟩ : ∃ D : Nat, D = (e - (1 - (biasN E : Int))).toNat := ⟨_, rfl⟩
  obtain ⟨K, hK⟩ : ∃ K, K = (M : Int) - e := ⟨_, rfl⟩
  obtain ⟨N, hN⟩ : ∃ N, N = rzN 0 neg (n * 2 ^ (biasN E + M - 1)) (d * 2 ^ D) := ⟨_, rfl⟩
  have hdD : d * 2 ^ D ≠ 0 := Nat.mul_ne_zero hd (Nat.ne_of_gt (pp _))
  have hpos : 0 < d * 2 ^ D := Nat.pos_of_ne_zero hdD
  have hP2 : 2 * (2 ^ M * (d * 2 ^ D)) = d * 2 ^ (M + D + 1) := by rw [Nat.pow_succ, Nat.pow_add]; grind
  have hP1 : 2 ^ M * (d * 2 ^ D) = d * 2 ^ (M + D) := by rw [Nat.pow_add]; grind
  have hup : n * 2 ^ (biasN E + M - 1) < 2 * (2 ^ M * (d * 2 ^ D)) := by
    rw [hP2]
    obtain ⟨t, ht⟩ : ∃ t : Nat, (t : Int) = max 0 (-R) := ⟨(max 0 (-R)).toNat, by omega⟩
    have h1 := true_up hn hd (biasN E + M - 1 + t) ((R + 1 + ((biasN E + M - 1 : Nat) : Int) + t).toNat) (by rw [← hR]; omega)
    have h2 := sp_up (b' := M + D + 1 + t) (by omega) h1
    exact sp_lt (by omega) h2
  have hlo : D ≠ 0 → 2 ^ M * (d * 2 ^ D) ≤ n * 2 ^ (biasN E + M - 1) := by
    intro hD0
    rw [hP1]
    exact true_low hn hd (biasN E + M - 1) (M + D) (by rw [← hR]; omega)
  have hNle : N ≤ 2 * 2 ^ M := by
    have h1 := rzN_le 0 neg (n * 2 ^ (biasN E + M - 1)) (d * 2 ^ D)
    have h2 : n * 2 ^ (biasN E + M - 1) / (d * 2 ^ D) < 2 * 2 ^ M := by
      rw [Nat.div_lt_iff_lt_mul hpos, Nat.mul_assoc]; exact hup
    omega
  have hNge : D ≠ 0 → 2 ^ M ≤ N := by
    intro hD0
    have h2 : 2 ^ M ≤ n * 2 ^ (biasN E + M - 1) / (d * 2 ^ D) := (Nat.le_div_iff_mul_le hpos).2 (hlo hD0)
    have h3 : n * 2 ^ (biasN E + M - 1) / (d * 2 ^ D) ≤ N := by rw [hN]; unfold rzN; omega
    omega
  refine ⟨D, N, ?_, hN, hNle, hNge, hlo, hup⟩
  by_cases hov : (biasN E : Int) < R
  · have e2 : rfE E n d = (biasN E : Int) + 1 := by unfold rfE; rw [hrf]; omega
    have h1 : rfN E M 0 neg n d = sgnd E M neg (infN E M) := by
      unfold rfN
      rw [if_neg hn, e2, if_pos (by omega)]
      unfold ovN ovB
      simp
    have hinf : infN E M ≤ D * 2 ^ M + N := by
      have h2 := hNge (by omega)
      have h3 : (2 * biasN E) * 2 ^ M ≤ D * 2 ^ M := Nat.mul_le_mul_right _ (by omega)
      unfold infN
      rw [show 2 ^ E - 1 = 2 * biasN E + 1 from by omega, Nat.add_mul, Nat.one_mul]
      omega
    rw [h1, if_pos hinf]
  · have e2 : rfE E n d = e := by unfold rfE; rw [hrf]; omega
    have hN' : rfTop 0 neg n d K = N := by
      unfold rfTop
      rw [hN]
      refine (rz_ratio (Nat.mul_ne_zero hd (Nat.ne_of_gt (pp _))) hdD ?_).1
      have : K.toNat + D = biasN E + M - 1 + (-K).toNat := by omega
      have e1 : n * 2 ^ K.toNat * (d * 2 ^ D) = n * d * 2 ^ (K.toNat + D) := by rw [Nat.pow_add]; grind
      have e3 : n * 2 ^ (biasN E + M - 1) * (d * 2 ^ (-K).toNat) = n * d * 2 ^ (biasN E + M - 1 + (-K).toNat) := by rw [Nat.pow_add]; grind
      rw [e1, e3, this]
    unfold rfN
    rw [if_neg hn, e2, if_neg (by omega), ← hK, hN', ← hD]
    unfold pkN
    split
    · unfold ovN ovB; simp
    · rfl

/-- READING BACK: the pattern of m * 2^De is RoundFlags' answer for n/d exactly where n/d lies in its interval -/
theorem readback {E M : Nat} {neg : Bool} {n d m De : Nat} (h : FOk E M) (hn : n ≠ 0) (hd : d ≠ 0) (hm2 : m < 2 * 2 ^ M) (hDe : De ≠ 0 → 2 ^ M ≤ m) (hfin : De * 2 ^ M + m < infN E M) :
    rfN E M 0 neg n d = sgnd E M neg (De * 2 ^ M + m) ↔ InR m (d * 2 ^ De) (n * 2 ^ (biasN E + M - 1)) (belN M m De) := by
  obtain ⟨D, N, e1, e2, hNle, hNge, hlo, hup⟩ := rf_parts (neg := neg) h hn hd
  have hPe : 2 ^ M % 2 = 0 := by
    obtain ⟨M', rfl⟩ : ∃ M', M = M' + 1 := ⟨M - 1, by have := h.m2; omega⟩
    rw [Nat.pow_succ]; omega
  have hPp := pp M
  rw [e1]
  obtain ⟨P, hP⟩ : ∃ P, P = 2 ^ M := ⟨_, rfl⟩
  obtain ⟨Z, hZ⟩ : ∃ Z, Z = n * 2 ^ (biasN E + M - 1) := ⟨_, rfl⟩
  obtain ⟨A, hA⟩ : ∃ A, A = d * 2 ^ D := ⟨_, rfl⟩
  obtain ⟨U, hU⟩ : ∃ U, U = d * 2 ^ De := ⟨_, rfl⟩
  have hA0 : 0 < A := by rw [hA]; exact Nat.mul_pos (Nat.pos_of_ne_zero hd) (pp _)
  have hU0 : 0 < U := by rw [hU]; exact Nat.mul_pos (Nat.pos_of_ne_zero hd) (pp _)
  have hbel : belN M m De = if m = P ∧ De ≠ 0 then 1 else 2 := by unfold belN; rw [hP]
  rw [← hP] at hNle hNge hlo hup hm2 hDe hfin hPe hPp ⊢
  rw [← hZ] at e2 hlo hup ⊢
  rw [← hA] at e2 hlo hup
  rw [← hU]
  have hAU1 : De < D → 2 * U ≤ A := by
    intro hlt
    rw [hU, hA]
    obtain ⟨t, rfl⟩ : ∃ t, D = De + 1 + t := ⟨D - De - 1, by omega⟩
    have e : d * 2 ^ (De + 1 + t) = 2 * (d * 2 ^ De) * 2 ^ t := by rw [Nat.pow_add, Nat.pow_succ]; grind
    rw [e]; exact Nat.le_mul_of_pos_right _ (pp t)
  have hAU2 : D + 1 < De → 4 * A ≤ U := by
    intro hlt
    rw [hU, hA]
    obtain ⟨t, rfl⟩ : ∃ t, De = D + 2 + t := ⟨De - D - 2, by omega⟩
    have e : d * 2 ^ (D + 2 + t) = 4 * (d * 2 ^ D) * 2 ^ t := by rw [Nat.pow_add, Nat.pow_add]; grind
    rw [e]; exact Nat.le_mul_of_pos_right _ (pp t)
  have hAU3 : De = D + 1 → U = 2 * A := by
    intro he
    rw [hU, hA, he, Nat.pow_succ]; grind
  have hAU0 : De = D → U = A := by intro he; rw [hU, hA, he]
  constructor
  · intro heq
    have hkey := sgnd_inj heq
    have hsum : D * P + N = De * P + m := by
      split at hkey
      · omega
      · exact hkey
    rcases Nat.lt_trichotomy D De with hc | hc | hc
    · -- the binade below, rounded up to its end
      have hDe1 : De = D + 1 := by
        rcases Nat.lt_or_ge (D + 1) De with h2 | h2
        · exfalso
          have h3 : (D + 2) * P ≤ De * P := Nat.mul_le_mul_right _ h2
          rw [Nat.add_mul] at h3
          have := hDe (by omega)
          omega
        · omega
      have hmP := hDe (by omega)
      rw [hDe1, Nat.add_mul, Nat.one_mul] at hsum
      have hN2 : N = 2 * P := by omega
      have hmP2 : m = P := by omega
      have hz := (rz_near (neg := neg) (Z := Z) (N := N) hA0).1 e2.symm
      rw [hN2, if_pos (by omega)] at hz
      have hUA := hAU3 hDe1
      rw [hbel, if_pos ⟨hmP2, by omega⟩]
      unfold InR
      rw [hmP2, if_pos hPe, hUA]
      have e3 : 2 * P * A = 2 * (P * A) := by grind
      have e4 : P * (2 * A) = 2 * (P * A) := by grind
      rw [e3] at hz
      rw [e4]
      generalize P * A = X at *
      exact ⟨by omega, by omega⟩
    · have hNm : N = m := by rw [hc] at hsum; omega
      have hUA := hAU0 hc.symm
      have hz := (rz_near (neg := neg) (Z := Z) (N := N) hA0).1 e2.symm
      rw [hNm] at hz
      unfold InR
      rw [hbel, hUA]
      by_cases hb : m = P ∧ De ≠ 0
      · rw [if_pos hb]
        have hl := hlo (by omega)
        rw [hb.1, if_pos hPe] at hz ⊢
        generalize P * A = X at *
        exact ⟨by omega, by omega⟩
      · rw [if_neg hb]
        split at hz
        · rename_i hev; rw [if_pos hev]; exact ⟨by omega, by omega⟩
        · rename_i hev; rw [if_neg hev]; exact ⟨by omega, by omega⟩
    · exfalso
      have h3 : (De + 1) * P ≤ D * P := Nat.mul_le_mul_right _ hc
      rw [Nat.add_mul, Nat.one_mul] at h3
      have := hNge (by omega)
      omega
  · intro hI
    have hw : 4 * (m * U) ≤ 4 * Z + belN M m De * U ∧ 4 * Z ≤ 4 * (m * U) + 2 * U := by
      unfold InR at hI
      split at hI
      · exact hI
      · exact ⟨by omega, by omega⟩
    have hsum : D * P + N = De * P + m := by
      rcases Nat.lt_trichotomy D De with hc | hc | hc
      · have hmP := hDe (by omega)
        have hmP2 : m = P := by
          rcases Nat.lt_or_ge P m with h2 | h2
          · exfalso
            rw [hbel, if_neg (by omega)] at hw
            have h3 : (P + 1) * U ≤ m * U := Nat.mul_le_mul_right _ h2
            rw [Nat.add_mul, Nat.one_mul] at h3
            have h4 : P * (2 * A) ≤ P * U := Nat.mul_le_mul_left _ (by
              rcases Nat.lt_or_ge (D + 1) De with h5 | h5
              · have := hAU2 h5; omega
              · have := hAU3 (by omega); omega)
            have e4 : P * (2 * A) = 2 * (P * A) := by grind
            rw [e4] at h4
            generalize P * A = X at *
            generalize P * U = Y at *
            omega
          · omega
        have hDe1 : De = D + 1 := by
          rcases Nat.lt_or_ge (D + 1) De with h2 | h2
          · exfalso
            rw [hbel, if_pos ⟨hmP2, by omega⟩, hmP2] at hw
            have h4 : (P - 1) * (4 * A) ≤ (P - 1) * U := Nat.mul_le_mul_left _ (hAU2 h2)
            have h5 := hAU2 h2
            have e4 : P * U = (P - 1) * U + U := by
              have : (P - 1 + 1) * U = P * U := by congr 1; omega
              rw [← this, Nat.add_mul, Nat.one_mul]
            have e5 : P * A = (P - 1) * A + A := by
              have : (P - 1 + 1) * A = P * A := by congr 1; omega
              rw [← this, Nat.add_mul, Nat.one_mul]
            have e6 : (P - 1) * (4 * A) = 4 * ((P - 1) * A) := by grind
            rw [e6] at h4
            rw [e4] at hw
            rw [e5] at hup
            generalize (P - 1) * A = X at *
            generalize (P - 1) * U = Y at *
            omega
          · omega
        have hUA := hAU3 hDe1
        rw [hbel, if_pos ⟨hmP2, by omega⟩, hmP2, hUA] at hw
        have e4 : P * (2 * A) = 2 * (P * A) := by grind
        rw [e4] at hw
        have hN2 : N = 2 * P := by
          rw [e2, rz_near hA0, if_pos (by omega)]
          have e3 : 2 * P * A = 2 * (P * A) := by grind
          rw [e3]
          generalize P * A = X at *
          exact ⟨by omega, by omega⟩
        rw [hN2, hDe1, hmP2, Nat.add_mul, Nat.one_mul]
        omega
      · have hUA := hAU0 hc.symm
        have hNm : N = m := by
          rw [e2, rz_near hA0]
          unfold InR at hI
          rw [hbel, hUA] at hI
          by_cases hb : m = P ∧ De ≠ 0
          · rw [if_pos hb] at hI
            rw [hb.1, if_pos hPe] at hI ⊢
            generalize P * A = X at *
            exact ⟨by omega, by omega⟩
          · rw [if_neg hb] at hI
            split at hI
            · rename_i hev; rw [if_pos hev]; exact ⟨by omega, by omega⟩
            · rename_i hev; rw [if_neg hev]; exact ⟨by omega, by omega⟩
        rw [hNm, hc]
      · exfalso
        have hl := hlo (by omega)
        have h4 : P * (2 * U) ≤ P * A := Nat.mul_le_mul_left _ (hAU1 hc)
        have h3 : (m + 1) * U ≤ (2 * P) * U := Nat.mul_le_mul_right _ hm2
        rw [Nat.add_mul, Nat.one_mul] at h3
        have e3 : 2 * P * U = 2 * (P * U) := by grind
        have e4 : P * (2 * U) = 2 * (P * U) := by grind
        rw [e3] at h3
        rw [e4] at h4
        generalize P * A = X at *
        generalize P * U = Y at *
        omega
    rw [hsum, if_neg (by omega)]
end Go.Proofs.Ygcoaj
