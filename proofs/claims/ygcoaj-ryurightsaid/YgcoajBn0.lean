/-
  PLAIN: a number cut at a low place with its lowest bit set where anything was left rounds as the number itself.
-/
import Derived.Test.YgcoajXsLawB
set_option linter.unusedVariables false
set_option linter.unusedSimpArgs false
namespace Go.Proofs.Ygcoaj
open Go.RowKit

theorem rf_same {E M mo : Nat} {neg : Bool} {n1 d1 n2 d2 : Nat} {R : Int} (h : FOk E M) (hn1 : n1 ≠ 0) (hd1 : d1 ≠ 0) (hn2 : n2 ≠ 0) (hd2 : d2 ≠ 0)
    (low1 : ∀ a b : Nat, (b : Int) - a = R → d1 * 2 ^ b ≤ n1 * 2 ^ a) (up1 : ∀ a b : Nat, (b : Int) - a = R + 1 → n1 * 2 ^ a < d1 * 2 ^ b)
    (low2 : ∀ a b : Nat, (b : Int) - a = R → d2 * 2 ^ b ≤ n2 * 2 ^ a) (up2 : ∀ a b : Nat, (b : Int) - a = R + 1 → n2 * 2 ^ a < d2 * 2 ^ b)
    (htop : ∀ e : Int, R ≤ e → rfTop mo neg n1 d1 ((M : Int) - e) = rfTop mo neg n2 d2 ((M : Int) - e)) : rfN E M mo neg n1 d1 = rfN E M mo neg n2 d2 := by
  have hb1 := biasN_pos h.e2
  have r1 : rfR E n1 d1 = max (1 - (biasN E : Int) - 1 - 1) (min R ((biasN E : Int) + 1)) := lg2_eq hn1 hd1 (by omega) low1 up1
  have r2 : rfR E n2 d2 = max (1 - (biasN E : Int) - 1 - 1) (min R ((biasN E : Int) + 1)) := lg2_eq hn2 hd2 (by omega) low2 up2
  have e1 : rfE E n1 d1 = rfE E n2 d2 := by unfold rfE; rw [r1, r2]
  unfold rfN
  rw [if_neg hn1, if_neg hn2, e1]
  by_cases hov : (biasN E : Int) < rfE E n2 d2
  · rw [if_pos hov, if_pos hov]
  · rw [if_neg hov, if_neg hov]
    have hR : R ≤ rfE E n2 d2 := by
      unfold rfE at hov ⊢
      rw [r2] at hov ⊢
      omega
    unfold pkN
    rw [htop _ hR]
/-- the rounding hangs on the ratio alone -/
theorem rf_ratio {E M mo : Nat} {neg : Bool} {n1 d1 n2 d2 : Nat} (h : FOk E M) (hd1 : d1 ≠ 0) (hd2 : d2 ≠ 0) (hr : n1 * d2 = n2 * d1) : rfN E M mo neg n1 d1 = rfN E M mo neg n2 d2 := by
  by_cases hn1 : n1 = 0
  · have hn2 : n2 = 0 := by
      rw [hn1, Nat.zero_mul] at hr
      rcases Nat.mul_eq_zero.1 hr.symm with h | h
      · exact h
      · exact absurd h hd1
    unfold rfN
    rw [if_pos hn1, if_pos hn2]
  · have hn2 : n2 ≠ 0 := by
      rintro rfl
      rw [Nat.zero_mul] at hr
      exact absurd hr (Nat.mul_ne_zero hn1 hd2)
    refine rf_same (R := trueR n1 d1) h hn1 hd1 hn2 hd2 (true_low hn1 hd1) (true_up hn1 hd1) ?_ ?_ ?_
    · intro a b hab
      have h1 := Nat.mul_le_mul_right d2 (true_low hn1 hd1 a b hab)
      rw [Nat.mul_right_comm n1, hr] at h1
      refine Nat.le_of_mul_le_mul_left (c := d1) ?_ (Nat.pos_of_ne_zero hd1)
      have e1 : d1 * (d2 * 2 ^ b) = d1 * 2 ^ b * d2 := by rw [← Nat.mul_assoc, Nat.mul_right_comm]
      have e2 : d1 * (n2 * 2 ^ a) = n2 * d1 * 2 ^ a := by rw [← Nat.mul_assoc, Nat.mul_comm d1]
      rw [e1, e2]; exact h1
    · intro a b hab
      have h1 := Nat.mul_lt_mul_of_pos_right (true_up hn1 hd1 a b hab) (Nat.pos_of_ne_zero hd2)
      rw [Nat.mul_right_comm n1, hr] at h1
      refine Nat.lt_of_mul_lt_mul_left (a := d1) ?_
      have e1 : d1 * (d2 * 2 ^ b) = d1 * 2 ^ b * d2 := by rw [← Nat.mul_assoc, Nat.mul_right_comm]
      have e2 : d1 * (n2 * 2 ^ a) = n2 * d1 * 2 ^ a := by rw [← Nat.mul_assoc, Nat.mul_comm d1]
      rw [e1, e2]; exact h1
    · intro e _
      unfold rfTop
      refine (rz_ratio (Nat.mul_ne_zero hd1 (Nat.ne_of_gt (pp _))) (Nat.mul_ne_zero hd2 (Nat.ne_of_gt (pp _))) ?_).1
      have e1 : n1 * 2 ^ ((M : Int) - e).toNat * (d2 * 2 ^ (-((M : Int) - e)).toNat) = n1 * d2 * (2 ^ ((M : Int) - e).toNat * 2 ^ (-((M : Int) - e)).toNat) := by grind
      have e2 : n2 * 2 ^ ((M : Int) - e).toNat * (d1 * 2 ^ (-((M : Int) - e)).toNat) = n2 * d1 * (2 ^ ((M : Int) - e).toNat * 2 ^ (-((M : Int) - e)).toNat) := by grind
      rw [e1, e2, hr]

/-- the quotient with its lowest bit set where something was left -/
def jamQ (N D : Nat) : Nat := if N % D = 0 then N / D else N / D + (1 - N / D % 2)
theorem jam_cut {mo : Nat} {neg : Bool} {N D Q : Nat} (hD : 0 < D) (hQ : 0 < Q) : rzN mo neg N (D * (2 * (2 * Q))) = rzN mo neg (jamQ N D) (2 * (2 * Q)) := by
  by_cases h0 : N % D = 0
  · have e : N = jamQ N D * D := by unfold jamQ; rw [if_pos h0, Nat.div_mul_cancel (Nat.dvd_of_mod_eq_zero h0)]
    refine (rz_ratio (Nat.ne_of_gt (Nat.mul_pos hD (by omega))) (by omega) ?_).1
    have e2 : jamQ N D * (D * (2 * (2 * Q))) = jamQ N D * D * (2 * (2 * Q)) := by rw [Nat.mul_assoc]
    rw [e2, ← e]
  · obtain ⟨q, hq⟩ : ∃ q, q = N / D := ⟨_, rfl⟩
    have hj : jamQ N D = q + (1 - q % 2) := by unfold jamQ; rw [if_neg h0, ← hq]
    obtain ⟨t, ht⟩ : ∃ t, t = N % D := ⟨_, rfl⟩
    have htD : t < D := by rw [ht]; exact Nat.mod_lt _ hD
    have e1 : N / (D * (2 * (2 * Q))) = q / (2 * (2 * Q)) := by rw [← Nat.div_div_eq_div_mul, ← hq]
    have e2 : N % (D * (2 * (2 * Q))) = t + D * (q % (2 * (2 * Q))) := by rw [Nat.mod_mul, ← hq, ← ht]
    have e3 : jamQ N D / (2 * (2 * Q)) = q / (2 * (2 * Q)) := by
      have : (q + (1 - q % 2)) / 2 = q / 2 := by omega
      rw [hj, ← Nat.div_div_eq_div_mul, this, Nat.div_div_eq_div_mul]
    have e4 : jamQ N D % (2 * (2 * Q)) = q % (2 * (2 * Q)) + (1 - q % 2) := by
      have a1 := Nat.div_add_mod (jamQ N D) (2 * (2 * Q))
      have a2 := Nat.div_add_mod q (2 * (2 * Q))
      rw [e3] at a1
      omega
    obtain ⟨u, hu⟩ : ∃ u, u = q % (2 * (2 * Q)) := ⟨_, rfl⟩
    have hup : u % 2 = q % 2 := by
      rw [hu, Nat.mod_mod_of_dvd]
      exact ⟨2 * Q, rfl⟩
    rw [← hu] at e2 e4
    have hsm1 : smX N (D * (2 * (2 * Q))) = true := by
      unfold smX
      rw [e2, beq_eq_false_iff_ne.2 (by omega)]; rfl
    have hsm2 : smX (jamQ N D) (2 * (2 * Q)) = true := by
      unfold smX
      rw [e4, beq_eq_false_iff_ne.2 (by omega)]; rfl
    have hhf : hfX N (D * (2 * (2 * Q))) = hfX (jamQ N D) (2 * (2 * Q)) := by
      unfold hfX
      rw [e2, e4]
      rcases Nat.lt_or_ge u (2 * Q) with hc | hc
      · have h1 : (t + D * u) * 2 < D * (2 * (2 * Q)) := by
          have h2 : D * (u + 1) ≤ D * (2 * Q) := Nat.mul_le_mul_left _ hc
          rw [Nat.mul_add, Nat.mul_one] at h2
          have h3 : D * (2 * (2 * Q)) = D * (2 * Q) * 2 := by rw [Nat.mul_left_comm, Nat.mul_comm]
          omega
        rw [cmpZ_lt h1, cmpZ_lt (by omega)]
      · have h1 : D * (2 * (2 * Q)) < (t + D * u) * 2 := by
          have h2 : D * (2 * Q) ≤ D * u := Nat.mul_le_mul_left _ hc
          have h3 : D * (2 * (2 * Q)) = D * (2 * Q) * 2 := by rw [Nat.mul_left_comm, Nat.mul_comm]
          omega
        rw [cmpZ_gt h1, cmpZ_gt (by omega)]
    unfold rzN
    rw [e1, e3, hsm1, hsm2, hhf]
theorem jam_bits {N D : Nat} (hq : 1 ≤ N / D) : bitLen (jamQ N D) = bitLen (N / D) := by
  unfold jamQ
  split
  · rfl
  · obtain ⟨q, hqq⟩ : ∃ q, q = N / D := ⟨_, rfl⟩
    rw [← hqq] at hq ⊢
    have a1 := bitLen_lt q
    have a2 := bitLen_le (x := q) (by omega)
    have a3 := bitLen_pos (x := q) (by omega)
    by_cases h2 : q = 1
    · subst h2; rfl
    · obtain ⟨L, hL⟩ : ∃ L, bitLen q = L + 1 := ⟨bitLen q - 1, by omega⟩
      rw [hL] at a1 a2 ⊢
      refine bitLen_uniq ?_ ?_
      · have : 2 ^ L ≤ q := a2
        omega
      · rw [Nat.pow_succ] at a1 ⊢
        omega

/-- the sticky law -/
theorem sticky {E M mo : Nat} {neg : Bool} {exp : Int} {n d N D a0 b0 : Nat} (h : FOk E M) (hd : d ≠ 0) (hD : D ≠ 0) (he : (b0 : Int) - a0 = exp) (hv : n * D * 2 ^ a0 = d * N * 2 ^ b0) (hq : N % D = 0 ∨ 2 ^ (M + 2) ≤ N / D) :
    rfN E M mo neg n d = rfN E M mo neg (jamQ N D * 2 ^ b0) (2 ^ a0) := by
  by_cases h0 : N % D = 0
  · refine rf_ratio h hd (Nat.ne_of_gt (pp _)) ?_
    have e : N = jamQ N D * D := by unfold jamQ; rw [if_pos h0, Nat.div_mul_cancel (Nat.dvd_of_mod_eq_zero h0)]
    refine Nat.eq_of_mul_eq_mul_right (Nat.pos_of_ne_zero hD) ?_
    rw [Nat.mul_right_comm n, hv]
    have e2 : jamQ N D * 2 ^ b0 * d * D = d * (jamQ N D * D) * 2 ^ b0 := by grind
    rw [e2, ← e]
  · have hq2 : 2 ^ (M + 2) ≤ N / D := by rcases hq with hc | hc; exact absurd hc h0; exact hc
    have hM2 : 4 ≤ 2 ^ (M + 2) := by rw [Nat.pow_add]; have := pp M; omega
    obtain ⟨q, hqq⟩ : ∃ q, q = N / D := ⟨_, rfl⟩
    have hjb := jam_bits (N := N) (D := D) (by omega)
    rw [← hqq] at hq2 hjb
    have hj0 : jamQ N D ≠ 0 := by unfold jamQ; split <;> omega
    have b1 := bitLen_lt q
    have b2 := bitLen_le (x := q) (by omega)
    have b3 := bitLen_pos (x := q) (by omega)
    have b4 : M + 3 ≤ bitLen q := by
      have := (Nat.pow_lt_pow_iff_right (a := 2) (by decide)).1 (Nat.lt_of_le_of_lt hq2 b1)
      omega
    have j1 := bitLen_lt (jamQ N D)
    have j2 := bitLen_le hj0
    rw [hjb] at j1 j2
    have hNq : D * q ≤ N ∧ N < D * (q + 1) := by
      have := Nat.div_add_mod N D
      have := Nat.mod_lt N (Nat.pos_of_ne_zero hD)
      rw [Nat.mul_add, Nat.mul_one, hqq]
      omega
    have hN0 : N ≠ 0 := by
      have : D * 1 ≤ D * q := Nat.mul_le_mul_left _ (by omega)
      omega
    have hn : n ≠ 0 := by
      rintro rfl
      rw [Nat.zero_mul, Nat.zero_mul] at hv
      exact absurd hv.symm (Nat.mul_ne_zero (Nat.mul_ne_zero hd hN0) (Nat.ne_of_gt (pp _)))
    obtain ⟨R, hR⟩ : ∃ R, R = exp + (bitLen q : Int) - 1 := ⟨_, rfl⟩
    refine rf_same (R := R) h hn hd (Nat.mul_ne_zero hj0 (Nat.ne_of_gt (pp _))) (Nat.ne_of_gt (pp _)) ?_ ?_ ?_ ?_ ?_
    · intro a b hab
      refine sp_le (a := a0) (b := bitLen q - 1 + b0) (by omega) ?_
      refine Nat.le_of_mul_le_mul_left (c := D) ?_ (Nat.pos_of_ne_zero hD)
      have e1 : D * (n * 2 ^ a0) = d * N * 2 ^ b0 := by rw [← hv]; grind
      have e2 : D * (d * 2 ^ (bitLen q - 1 + b0)) = d * (D * 2 ^ (bitLen q - 1)) * 2 ^ b0 := by rw [Nat.pow_add]; grind
      rw [e1, e2]
      exact Nat.mul_le_mul_right _ (Nat.mul_le_mul_left _ (Nat.le_trans (Nat.mul_le_mul_left _ b2) hNq.1))
    · intro a b hab
      refine sp_lt (a := a0) (b := bitLen q + b0) (by omega) ?_
      refine Nat.lt_of_mul_lt_mul_left (a := D) ?_
      have e1 : D * (n * 2 ^ a0) = d * N * 2 ^ b0 := by rw [← hv]; grind
      have e2 : D * (d * 2 ^ (bitLen q + b0)) = d * (D * 2 ^ bitLen q) * 2 ^ b0 := by rw [Nat.pow_add]; grind
      rw [e1, e2]
      exact Nat.mul_lt_mul_of_pos_right (Nat.mul_lt_mul_of_pos_left (Nat.lt_of_lt_of_le hNq.2 (Nat.mul_le_mul_left _ b1)) (Nat.pos_of_ne_zero hd)) (pp _)
    · intro a b hab
      refine sp_le (a := a0) (b := bitLen q - 1 + b0) (by omega) ?_
      have e1 : jamQ N D * 2 ^ b0 * 2 ^ a0 = 2 ^ a0 * 2 ^ b0 * jamQ N D := by grind
      have e2 : 2 ^ a0 * 2 ^ (bitLen q - 1 + b0) = 2 ^ a0 * 2 ^ b0 * 2 ^ (bitLen q - 1) := by rw [Nat.pow_add]; grind
      rw [e1, e2]
      exact Nat.mul_le_mul_left _ j2
    · intro a b hab
      refine sp_lt (a := a0) (b := bitLen q + b0) (by omega) ?_
      have e1 : jamQ N D * 2 ^ b0 * 2 ^ a0 = 2 ^ a0 * 2 ^ b0 * jamQ N D := by grind
      have e2 : 2 ^ a0 * 2 ^ (bitLen q + b0) = 2 ^ a0 * 2 ^ b0 * 2 ^ bitLen q := by rw [Nat.pow_add]; grind
      rw [e1, e2]
      exact Nat.mul_lt_mul_of_pos_left j1 (Nat.mul_pos (pp _) (pp _))
    · intro e hRe
      obtain ⟨c, hc⟩ : ∃ c : Nat, (c : Int) = e - (M : Int) - exp := ⟨(e - (M : Int) - exp).toNat, by omega⟩
      have hc2 : 2 ≤ c := by omega
      obtain ⟨Q, hQ, hQ0⟩ : ∃ Q, 2 ^ c = 2 * (2 * Q) ∧ 0 < Q := ⟨2 ^ (c - 2), by rw [← Nat.pow_succ', ← Nat.pow_succ']; congr 1; omega, pp _⟩
      have t1 : rfTop mo neg n d ((M : Int) - e) = rzN mo neg N (D * 2 ^ c) := by
        unfold rfTop
        refine (rz_ratio (Nat.mul_ne_zero hd (Nat.ne_of_gt (pp _))) (Nat.mul_ne_zero hD (Nat.ne_of_gt (pp _))) ?_).1
        have e1 : n * 2 ^ ((M : Int) - e).toNat * (D * 2 ^ c) = n * D * 2 ^ (((M : Int) - e).toNat + c) := by rw [Nat.pow_add]; grind
        have e2 : N * (d * 2 ^ (-((M : Int) - e)).toNat) = d * N * 2 ^ (-((M : Int) - e)).toNat := by grind
        rw [e1, e2]
        exact sp_eq (a := a0) (b := b0) (m := 0) (e := 0) (by omega) hv
      have t2 : rfTop mo neg (jamQ N D * 2 ^ b0) (2 ^ a0) ((M : Int) - e) = rzN mo neg (jamQ N D) (2 ^ c) := by
        unfold rfTop
        refine (rz_ratio (Nat.mul_ne_zero (Nat.ne_of_gt (pp _)) (Nat.ne_of_gt (pp _))) (Nat.ne_of_gt (pp _)) ?_).1
        have e1 : jamQ N D * 2 ^ b0 * 2 ^ ((M : Int) - e).toNat * 2 ^ c = jamQ N D * 2 ^ (b0 + ((M : Int) - e).toNat + c) := by rw [Nat.pow_add, Nat.pow_add]; grind
        have e2 : jamQ N D * (2 ^ a0 * 2 ^ (-((M : Int) - e)).toNat) = jamQ N D * 2 ^ (a0 + (-((M : Int) - e)).toNat) := by rw [Nat.pow_add]
        rw [e1, e2]
        congr 2
        omega
      rw [t1, t2, hQ]
      exact jam_cut (Nat.pos_of_ne_zero hD) hQ0

end Go.Proofs.Ygcoaj
