/-
  PLAIN: soft.roundPack of +-sig * 2^exp is exact.RoundFlags of the same number.
-/
import Derived.Test.YgcoajSf1
import Derived.Test.YgcoajRnd3
set_option linter.unusedVariables false
namespace Go.Proofs.Ygcoaj
open Go.RowKit

theorem pow_order {n d : Nat} {r s : Int} (hd : d ≠ 0) (h1 : ∀ a b : Nat, (b : Int) - a = r → d * 2 ^ b ≤ n * 2 ^ a) (h2 : ∀ a b : Nat, (b : Int) - a = s → n * 2 ^ a < d * 2 ^ b) : r < s := by
  by_cases h : r < s
  · exact h
  · exfalso
    have e1 := h1 (-s).toNat (s.toNat + (r - s).toNat) (by omega)
    have e2 := h2 (-s).toNat s.toNat (by omega)
    rw [mulpow] at e1
    have e3 : d * 2 ^ s.toNat * 1 ≤ d * 2 ^ s.toNat * 2 ^ (r - s).toNat := Nat.mul_le_mul_left _ (pp _)
    omega

theorem lg2_eq {n d : Nat} {r lo hi : Int} (hn : n ≠ 0) (hd : d ≠ 0) (hlo : lo ≤ hi + 1) (h1 : ∀ a b : Nat, (b : Int) - a = r → d * 2 ^ b ≤ n * 2 ^ a) (h2 : ∀ a b : Nat, (b : Int) - a = r + 1 → n * 2 ^ a < d * 2 ^ b) :
    lg2 n d lo hi = max (lo - 1) (min r (hi + 1)) := by
  have k1 : r < lgD n d + 1 := pow_order hd h1 (fun a b h => lgD_up hn hd h)
  have k2 : lgD n d - 1 < r + 1 := pow_order hd (fun a b h => lgD_low hn hd h) h2
  unfold lg2
  split
  · omega
  · split
    · omega
    · split
      · rename_i h3
        have k3 : r < lgD n d := pow_order hd h1 (fun a b h => sp_lt (by omega) h3)
        omega
      · rename_i h3
        have k3 : lgD n d < r + 1 := pow_order hd (fun a b h => sp_le (a := (-lgD n d).toNat) (b := (lgD n d).toNat) (by omega) (by omega)) h2
        omega

theorem rz_ratio {mo : Nat} {neg : Bool} {n1 m1 n2 m2 : Nat} (h1 : m1 ≠ 0) (h2 : m2 ≠ 0) (h : n1 * m2 = n2 * m1) : rzN mo neg n1 m1 = rzN mo neg n2 m2 ∧ smX n1 m1 = smX n2 m2 ∧ n1 / m1 = n2 / m2 ∧ rdP mo neg n1 m1 = rdP mo neg n2 m2 := by
  have p1 : 0 < m1 := by omega
  have p2 : 0 < m2 := by omega
  have eq : n1 / m1 = n2 / m2 := by
    rw [← Nat.mul_div_mul_right n1 m1 p2, ← Nat.mul_div_mul_right n2 m2 p1, h, Nat.mul_comm m1 m2]
  have er : n1 % m1 * m2 = n2 % m2 * m1 := by
    rw [← Nat.mul_mod_mul_right, ← Nat.mul_mod_mul_right, h, Nat.mul_comm m1 m2]
  have ehf : hfX n1 m1 = hfX n2 m2 := by
    unfold hfX
    rw [← cmpZ_scale (a := n1 % m1 * 2) (b := m1) p2, ← cmpZ_scale (a := n2 % m2 * 2) (b := m2) p1]
    have e1 : n1 % m1 * 2 * m2 = n2 % m2 * 2 * m1 := by
      rw [Nat.mul_assoc, Nat.mul_comm 2 m2, ← Nat.mul_assoc, er, Nat.mul_assoc, Nat.mul_comm m1 2, ← Nat.mul_assoc]
    rw [e1, Nat.mul_comm m1 m2]
  have esm : smX n1 m1 = smX n2 m2 := by
    unfold smX
    congr 1
    by_cases h0 : n1 % m1 = 0
    · have h3 : n2 % m2 = 0 := by
        rw [h0, Nat.zero_mul] at er
        rcases Nat.mul_eq_zero.1 er.symm with h | h
        · exact h
        · exact absurd h h1
      rw [h0, h3]
    · have h3 : n2 % m2 ≠ 0 := by
        intro h3
        rw [h3, Nat.zero_mul] at er
        rcases Nat.mul_eq_zero.1 er with h | h
        · exact h0 h
        · exact absurd h h2
      rw [beq_eq_false_iff_ne.2 h0, beq_eq_false_iff_ne.2 h3]
  refine ⟨?_, esm, eq, ?_⟩
  · unfold rzN; rw [eq, ehf, esm]
  · unfold rdP; rw [eq, ehf, esm]

theorem bitLen_top2 {x m : Nat} (h1 : 2 ^ m ≤ x) (h2 : x ≤ 2 ^ (m + 1)) : (bitLen x == m + 1) = (x != 2 ^ (m + 1)) := by
  by_cases h : x = 2 ^ (m + 1)
  · have : bitLen x = m + 1 + 1 := bitLen_uniq (by omega) (by rw [h]; exact Nat.pow_lt_pow_right (by decide) (by omega))
    rw [this, h, bne_self_eq_false]
    exact beq_eq_false_iff_ne.2 (by omega)
  · have : bitLen x = m + 1 := bitLen_uniq h1 (by omega)
    rw [this, beq_self_eq_true, bne_iff_ne.2 h]

/-- the law -/
theorem rp_rf {E M mo : Nat} {neg : Bool} {exp : Int} {sig n d a0 b0 : Nat} (h : FOk E M) (hsig : sig < 18446744073709551616) (hd : d ≠ 0) (he : (b0 : Int) - a0 = exp) (hv : n * 2 ^ a0 = d * sig * 2 ^ b0) :
    rpN E M mo neg exp sig = rfN E M mo neg n d ∧ rpF E M mo neg exp sig = rfF E M mo neg n d := by
  by_cases h0 : sig = 0
  · subst h0
    have hn : n = 0 := by
      rw [Nat.mul_zero, Nat.zero_mul] at hv
      rcases Nat.mul_eq_zero.1 hv with h | h
      · exact h
      · exact absurd h (Nat.ne_of_gt (pp _))
    unfold rpN rpF rfN rfF
    rw [if_pos rfl, if_pos rfl, if_pos hn, if_pos hn]
    exact ⟨rfl, rfl⟩
  · have hn : n ≠ 0 := by
      rintro rfl
      rw [Nat.zero_mul] at hv
      exact absurd hv.symm (Nat.mul_ne_zero (Nat.mul_ne_zero hd h0) (Nat.ne_of_gt (pp _)))
    have hL1 := bitLen_pos h0
    have hL : bitLen sig ≤ 64 := bitLen_le_of_lt (n := 64) hsig
    have hlt := bitLen_lt sig
    have hle := bitLen_le h0
    obtain ⟨R, hR⟩ : ∃ R, R = rpR exp sig := ⟨_, rfl⟩
    have hRe : R = exp + (bitLen sig : Int) - 1 := hR
    have low : ∀ a b : Nat, (b : Int) - a = R → d * 2 ^ b ≤ n * 2 ^ a := fun a b hab => by
      refine sp_le (a := a0) (b := bitLen sig - 1 + b0) (by omega) ?_
      rw [hv, Nat.pow_add, ← Nat.mul_assoc]
      exact Nat.mul_le_mul_right _ (Nat.mul_le_mul_left _ hle)
    have up : ∀ a b : Nat, (b : Int) - a = R + 1 → n * 2 ^ a < d * 2 ^ b := fun a b hab => by
      refine sp_lt (a := a0) (b := bitLen sig + b0) (by omega) ?_
      rw [hv, Nat.pow_add, ← Nat.mul_assoc]
      exact Nat.mul_lt_mul_of_pos_right (Nat.mul_lt_mul_of_pos_left hlt (by omega)) (pp _)
    have hb1 := biasN_pos h.e2
    have hbi := biasN_le h.e11
    have hM := h.m52
    have hrf : rfR E n d = max (1 - (biasN E : Int) - 1 - 1) (min R ((biasN E : Int) + 1)) := lg2_eq hn hd (by omega) low up
    obtain ⟨hS1, hS2⟩ := rpS_range hsig h0
    -- the ratio at a shift
    have ratio : ∀ (e : Int) (k : Nat), (k : Int) = 63 - (M : Int) + e - R → rfTop mo neg n d ((M : Int) - e) = rzN mo neg (rpS sig) (2 ^ k) ∧ rfSm n d ((M : Int) - e) = smX (rpS sig) (2 ^ k) := fun e k hk => by
      have hr := rz_ratio (mo := mo) (neg := neg) (n1 := n * 2 ^ ((M : Int) - e).toNat) (m1 := d * 2 ^ (-((M : Int) - e)).toNat) (n2 := rpS sig) (m2 := 2 ^ k) (Nat.mul_ne_zero hd (Nat.ne_of_gt (pp _))) (Nat.ne_of_gt (pp _)) (by
        have e1 : n * 2 ^ ((M : Int) - e).toNat * 2 ^ k = n * 2 ^ (((M : Int) - e).toNat + k) := (mulpow _ _ _).symm
        have e2 : rpS sig * (d * 2 ^ (-((M : Int) - e)).toNat) = d * sig * 2 ^ (64 - bitLen sig + (-((M : Int) - e)).toNat) := by
          unfold rpS
          rw [mulpow, ← Nat.mul_assoc]
          congr 1
          rw [Nat.mul_right_comm, Nat.mul_comm sig d]
        rw [e1, e2]
        exact sp_eq (a := a0) (b := b0) (m := 0) (e := 0) (by omega) hv)
      exact ⟨hr.1, hr.2.1⟩
    by_cases hov : (biasN E : Int) < R
    · have e1 : rpE E exp sig = R := by unfold rpE; rw [← hR]; omega
      have e2 : rfE E n d = (biasN E : Int) + 1 := by unfold rfE; rw [hrf]; omega
      unfold rpN rpF rfN rfF
      rw [if_neg h0, if_neg h0, if_neg hn, if_neg hn, e1, e2, if_pos hov, if_pos hov, if_pos (by omega), if_pos (by omega)]
      exact ⟨rfl, rfl⟩
    · have e1 : rpE E exp sig = max R (1 - (biasN E : Int)) := by unfold rpE; rw [← hR]
      have e2 : rfE E n d = max R (1 - (biasN E : Int)) := by unfold rfE; rw [hrf]; omega
      obtain ⟨e, hee⟩ : ∃ e, e = max R (1 - (biasN E : Int)) := ⟨_, rfl⟩
      rw [← hee] at e1 e2
      have hne : ¬ (biasN E : Int) < e := by omega
      obtain ⟨k, hk⟩ : ∃ k : Nat, k = rpK E M exp sig := ⟨_, rfl⟩
      have hkI : (k : Int) = 63 - (M : Int) + e - R := by rw [hk]; unfold rpK; rw [e1, ← hR]; omega
      obtain ⟨r1, r2⟩ := ratio e k hkI
      have tiny : rfTiny E M mo neg n d = rpTiny E M mo neg exp sig := by
        unfold rfTiny rpTiny
        rw [← hR]
        by_cases ht : R = 1 - (biasN E : Int) - 1
        · have ht2 : rfR E n d = R := by rw [hrf]; omega
          rw [ht2, if_pos ht, if_pos ht]
          obtain ⟨r3, _⟩ := ratio R (63 - M) (by omega)
          rw [r3]
          have q1 : rpS sig / 2 ^ (63 - M) < 2 ^ (M + 1) := (rp_top (mo := mo) (neg := neg) hS2 hM (Nat.le_refl _)).1
          have q0 : 2 ^ M ≤ rpS sig / 2 ^ (63 - M) := by
            refine (Nat.le_div_iff_mul_le (pp _)).2 ?_
            rw [← Nat.pow_add, show M + (63 - M) = 63 by omega]
            exact hS1
          have e5 : rzN mo neg (rpS sig) (2 ^ (63 - M)) = rpS sig / 2 ^ (63 - M) + (if rdP mo neg (rpS sig) (2 ^ (63 - M)) then 1 else 0) := rfl
          rw [e5]
          generalize rpS sig / 2 ^ (63 - M) = Q at *
          generalize rdP mo neg (rpS sig) (2 ^ (63 - M)) = rd at *
          rw [bitLen_top2 (m := M) (by split <;> omega) (by split <;> omega)]
          have hpp := pp (M + 1)
          generalize 2 ^ (M + 1) = P at *
          cases rd with
          | false =>
            simp only [Bool.false_eq_true, if_false, Nat.add_zero, Bool.not_false, Bool.true_or]
            exact bne_iff_ne.2 (by omega)
          | true =>
            simp only [if_true, Bool.not_true, Bool.false_or]
            by_cases hq : Q = P - 1
            · have : Q + 1 = P := by omega
              rw [this, hq, bne_self_eq_false, bne_self_eq_false]
            · have : Q + 1 ≠ P := by omega
              rw [bne_iff_ne.2 hq, bne_iff_ne.2 this]
        · rw [if_neg ht, if_neg (by rw [hrf]; omega)]
          by_cases hlt2 : R < 1 - (biasN E : Int)
          · rw [decide_eq_true hlt2, decide_eq_true (by rw [hrf]; omega)]
          · rw [decide_eq_false hlt2, decide_eq_false (by rw [hrf]; omega)]
      unfold rpN rpF rfN rfF
      rw [if_neg h0, if_neg h0, if_neg hn, if_neg hn, e1, e2, if_neg hne, if_neg hne, if_neg hne, if_neg hne, ← hk, r1, r2, tiny]
      exact ⟨rfl, rfl⟩

end Go.Proofs.Ygcoaj
