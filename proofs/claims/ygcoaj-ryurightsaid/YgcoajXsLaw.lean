/-
  PLAIN: what rounding raises (law.wantFlags) is what exact.RoundFlags raises.
-/
import Derived.Test.YgcoajLb
set_option linter.unusedVariables false
namespace Go.Proofs.Ygcoaj
open Go.RowKit

/-! ### the true exponent of a fraction -/
def trueR (n d : Nat) : Int := if n * 2 ^ (-lgD n d).toNat < d * 2 ^ (lgD n d).toNat then lgD n d - 1 else lgD n d
theorem true_low {n d : Nat} (hn : n ≠ 0) (hd : d ≠ 0) : ∀ a b : Nat, (b : Int) - a = trueR n d → d * 2 ^ b ≤ n * 2 ^ a := fun a b h => by
  unfold trueR at h
  split at h
  · exact lgD_low hn hd h
  · rename_i h3
    exact sp_le (a := (-lgD n d).toNat) (b := (lgD n d).toNat) (by omega) (by omega)
theorem true_up {n d : Nat} (hn : n ≠ 0) (hd : d ≠ 0) : ∀ a b : Nat, (b : Int) - a = trueR n d + 1 → n * 2 ^ a < d * 2 ^ b := fun a b h => by
  unfold trueR at h
  split at h
  · rename_i h3
    exact sp_lt (by omega) h3
  · exact lgD_up hn hd h
theorem rfR_true {E n d : Nat} (h : 1 ≤ biasN E) (hn : n ≠ 0) (hd : d ≠ 0) : rfR E n d = max (1 - (biasN E : Int) - 1 - 1) (min (trueR n d) ((biasN E : Int) + 1)) :=
  lg2_eq hn hd (by omega) (true_low hn hd) (true_up hn hd)
/-- 2^k is at most n/d -/
def gePow (n d : Nat) (k : Int) : Bool := decide (d * 2 ^ k.toNat ≤ n * 2 ^ (-k).toNat)
theorem gePow_eq {n d : Nat} {k : Int} (hn : n ≠ 0) (hd : d ≠ 0) : gePow n d k = decide (k ≤ trueR n d) := by
  unfold gePow
  by_cases hk : k ≤ trueR n d
  · rw [decide_eq_true hk, decide_eq_true_eq]
    have h1 := true_low hn hd (-k).toNat (k.toNat + (trueR n d - k).toNat) (by omega)
    rw [mulpow] at h1
    exact Nat.le_trans (Nat.le_mul_of_pos_right _ (pp _)) h1
  · rw [decide_eq_false hk, decide_eq_false_iff_not]
    intro hc
    have h1 := true_up hn hd ((-k).toNat + (k - (trueR n d + 1)).toNat) k.toNat (by omega)
    rw [mulpow] at h1
    have h2 : n * 2 ^ (-k).toNat * 1 ≤ n * 2 ^ (-k).toNat * 2 ^ (k - (trueR n d + 1)).toNat := Nat.mul_le_mul_left _ (pp _)
    omega

/-! ### a packed pattern, read back -/
theorem fMan_sgnd {E M x : Nat} (neg : Bool) : fMan M (sgnd E M neg x) = x % 2 ^ M := by
  unfold fMan sgnd
  split
  · rw [Nat.add_comm E M, Nat.pow_add, Nat.add_mul_mod_self_left]
  · rfl
theorem fExp_sgnd {E M x : Nat} (neg : Bool) (hx : x < 2 ^ (E + M)) : fExp E M (sgnd E M neg x) = x / 2 ^ M := by
  have h1 : x / 2 ^ M < 2 ^ E := by
    refine (Nat.div_lt_iff_lt_mul (pp _)).2 ?_
    rw [← Nat.pow_add]; exact hx
  unfold fExp sgnd
  split
  · rw [Nat.add_comm E M, Nat.pow_add, Nat.add_mul_div_left _ _ (pp _), Nat.add_mod_right, Nat.mod_eq_of_lt h1]
  · exact Nat.mod_eq_of_lt h1
/-- the size of a packed pattern -/
theorem sVal_pack {E M D N : Nat} (neg : Bool) (hN : N ≤ 2 ^ (M + 1)) (hD : D ≠ 0 → 2 ^ M ≤ N) (hx : D * 2 ^ M + N < 2 ^ (E + M)) : sVal E M (sgnd E M neg (D * 2 ^ M + N)) = N * 2 ^ D := by
  have hp := pp M
  unfold sVal
  rw [fExp_sgnd neg hx, fMan_sgnd]
  rw [Nat.pow_succ] at hN
  have hdm : (D * 2 ^ M + N) / 2 ^ M = D + N / 2 ^ M := by rw [Nat.mul_comm, Nat.mul_add_div hp]
  have hmm : (D * 2 ^ M + N) % 2 ^ M = N % 2 ^ M := by rw [Nat.mul_comm, Nat.mul_add_mod]
  rw [hdm, hmm]
  by_cases h0 : N < 2 ^ M
  · have hD0 : D = 0 := by
      by_cases h : D = 0
      · exact h
      · have := hD h; omega
    subst hD0
    rw [Nat.div_eq_of_lt h0, if_pos rfl, Nat.mod_eq_of_lt h0]; simp
  · by_cases h2 : N = 2 ^ M * 2
    · have e1 : N / 2 ^ M = 2 := by rw [h2, Nat.mul_div_cancel_left _ hp]
      have e2 : N % 2 ^ M = 0 := by rw [h2, Nat.mul_mod_right]
      rw [e1, e2, if_neg (by omega), h2, Nat.zero_add, show D + 2 - 1 = D + 1 by omega, Nat.pow_succ, Nat.mul_assoc, Nat.mul_comm 2 (2 ^ D)]
    · have e1 : N / 2 ^ M = 1 := by
        refine Nat.div_eq_of_lt_le ?_ ?_
        · omega
        · omega
      have e2 : N % 2 ^ M = N - 2 ^ M := by
        have := Nat.div_add_mod N (2 ^ M)
        rw [e1] at this
        omega
      rw [e1, e2, if_neg (by omega), show D + 1 - 1 = D by omega, Nat.sub_add_cancel (by omega)]
/-- .. it is finite -/
theorem upC_pack {E M x : Nat} (neg : Bool) (hx : x < infN E M) : fExp E M (sgnd E M neg x) ≠ 2 ^ E - 1 := by
  rw [fExp_sgnd neg (Nat.lt_trans hx (infN_lt E M))]
  have : x / 2 ^ M < 2 ^ E - 1 := (Nat.div_lt_iff_lt_mul (pp _)).2 hx
  omega
theorem upC_fin {E M x : Nat} (h : fExp E M x ≠ 2 ^ E - 1) : upC E M x = 0 ∨ upC E M x = 1 ∨ upC E M x = 2 := by
  unfold upC
  rw [if_neg h]
  split
  · split
    · exact Or.inl rfl
    · exact Or.inr (Or.inl rfl)
  · exact Or.inr (Or.inr rfl)

/-! ### law.isTiny, law.wantFlags, plain -/
def itB (E M mo : Nat) (neg : Bool) (n d : Nat) : Bool :=
  if gePow n d (1 - (biasN E : Int)) then false else if !gePow n d (1 - (biasN E : Int) - 1) then true
  else !gePow (vNum E M (rfN E M mo neg (n * 2) d)) (vDen E M (rfN E M mo neg (n * 2) d)) (1 - (biasN E : Int) + 1)
def finB (E M x : Nat) : Bool := decide (fExp E M x ≠ 2 ^ E - 1)
def wfN (E M mo : Nat) (neg : Bool) (n d x : Nat) : Nat :=
  if n = 0 then 0 else if !finB E M x || gePow n d ((biasN E : Int) + 1) then 20
  else if vNum E M x * d = n * vDen E M x then 0 else if itB E M mo neg n d then 24 else 16

theorem rd_ov {mo : Nat} {neg odd : Bool} {hf : Int} {sm : Bool} (h : rdX mo neg odd hf sm = true) : ovB mo neg = false := by
  unfold rdX at h
  unfold ovB
  by_cases h1 : mo = 1
  · subst h1; simp
  rw [if_neg h1] at h
  by_cases h2 : mo = 2
  · rw [if_pos h2] at h; cases h
  rw [if_neg h2] at h
  by_cases h3 : mo = 3
  · rw [if_pos h3] at h
    subst h3
    cases neg <;> simp_all
  rw [if_neg h3] at h
  by_cases h4 : mo = 4
  · rw [if_pos h4] at h
    subst h4
    cases neg <;> simp_all
  simp [h2, h3, h4]
theorem rd_exact {mo : Nat} {neg : Bool} {n m : Nat} (hm : m ≠ 0) (h : n % m = 0) : rzN mo neg n m = n / m := by
  have e1 : hfX n m = -1 := by
    unfold hfX
    rw [h, Nat.zero_mul]
    exact cmpZ_lt (by omega)
  have e2 : smX n m = false := by unfold smX; rw [h]; rfl
  unfold rzN
  rw [e1, e2]
  have : rdX mo neg (n / m % 2 == 1) (-1) false = false := by
    unfold rdX
    split
    · rfl
    · split
      · rfl
      · split
        · rfl
        · split <;> rfl
  rw [this]; simp
theorem rz_is {mo : Nat} {neg : Bool} {n m : Nat} (hm : m ≠ 0) : (n = rzN mo neg n m * m) ↔ smX n m = false := by
  have hdm := Nat.div_add_mod n m
  have hml := Nat.mod_lt n (show m > 0 by omega)
  constructor
  · intro h
    by_cases h0 : n % m = 0
    · unfold smX; rw [h0]; rfl
    · exfalso
      have h1 : rzN mo neg n m = n / m ∨ rzN mo neg n m = n / m + 1 := by unfold rzN; split <;> simp
      rcases h1 with h1 | h1
      · rw [h1, Nat.mul_comm] at h; omega
      · rw [h1, Nat.add_mul, Nat.one_mul, Nat.mul_comm] at h; omega
  · intro h
    have h0 : n % m = 0 := by
      unfold smX at h
      simpa using h
    rw [rd_exact hm h0, Nat.mul_comm]; omega


theorem top_ge {M mo n d : Nat} {neg : Bool} {K R : Int} (hd : d ≠ 0) (hK : (M : Int) - K = R) (low : ∀ a b : Nat, (b : Int) - a = R → d * 2 ^ b ≤ n * 2 ^ a) : 2 ^ M ≤ rfTop mo neg n d K := by
  have h1 := low K.toNat ((-K).toNat + M) (by omega)
  rw [mulpow] at h1
  have hpos : 0 < d * 2 ^ (-K).toNat := Nat.mul_pos (by omega) (pp _)
  have h2 : 2 ^ M ≤ n * 2 ^ K.toNat / (d * 2 ^ (-K).toNat) := (Nat.le_div_iff_mul_le hpos).2 (by rw [Nat.mul_comm]; exact h1)
  unfold rfTop rzN
  omega

theorem trueR_twice {n d : Nat} (hn : n ≠ 0) (hd : d ≠ 0) : trueR (n * 2) d = trueR n d + 1 := by
  have hn2 : n * 2 ≠ 0 := by omega
  have low : ∀ a b : Nat, (b : Int) - a = trueR n d + 1 → d * 2 ^ b ≤ n * 2 * 2 ^ a := fun a b h => by
    have := true_low hn hd (a + 1) b (by omega)
    rw [Nat.pow_succ, Nat.mul_comm (2 ^ a), ← Nat.mul_assoc] at this
    exact this
  have up : ∀ a b : Nat, (b : Int) - a = trueR n d + 1 + 1 → n * 2 * 2 ^ a < d * 2 ^ b := fun a b h => by
    have := true_up hn hd (a + 1) b (by omega)
    rw [Nat.pow_succ, Nat.mul_comm (2 ^ a), ← Nat.mul_assoc] at this
    exact this
  have k1 := pow_order hd low (true_up hn2 hd)
  have k2 := pow_order hd (true_low hn2 hd) up
  omega

theorem bias_pow {E : Nat} (h : 2 ≤ E) : 2 ^ E = 2 * (biasN E + 1) := by
  have e1 : 2 ^ E = 2 * 2 ^ (E - 1) := by rw [← Nat.pow_succ']; congr 1; omega
  have e2 : biasN E = 2 ^ (E - 1) - 1 := rfl
  have := pp (E - 1)
  omega

theorem tiny_ok {E M mo : Nat} {neg : Bool} {n d : Nat} (h : FOk E M) (hn : n ≠ 0) (hd : d ≠ 0) : rfTiny E M mo neg n d = itB E M mo neg n d := by
  have hb1 := biasN_pos h.e2
  have hbi := biasN_le h.e11
  have hbE := bias_pow h.e2
  obtain ⟨R, hR⟩ : ∃ R, R = trueR n d := ⟨_, rfl⟩
  have hrf := rfR_true hb1 hn hd
  rw [← hR] at hrf
  unfold rfTiny itB
  rw [gePow_eq hn hd, gePow_eq hn hd, ← hR]
  by_cases h1 : 1 - (biasN E : Int) ≤ R
  · rw [decide_eq_true h1, if_neg (by rw [hrf]; omega), decide_eq_false (by rw [hrf]; omega)]; rfl
  · rw [decide_eq_false h1]
    simp only [Bool.false_eq_true, if_false]
    by_cases h2 : 1 - (biasN E : Int) - 1 ≤ R
    · have hRe : R = 1 - (biasN E : Int) - 1 := by omega
      have hrf2 : rfR E n d = 1 - (biasN E : Int) - 1 := by rw [hrf]; omega
      rw [decide_eq_true h2, if_pos hrf2, hrf2]
      simp only [Bool.not_true, Bool.false_eq_true, if_false]
      have hn2 : n * 2 ≠ 0 := by omega
      have hrR := rfR_true hb1 hn2 hd
      rw [trueR_twice hn hd, ← hR] at hrR
      have hrR2 : rfR E (n * 2) d = 1 - (biasN E : Int) := by rw [hrR]; omega
      have hE2 : rfE E (n * 2) d = 1 - (biasN E : Int) := by unfold rfE; rw [hrR2]; omega
      obtain ⟨N, hN⟩ : ∃ N, N = rfTop mo neg (n * 2) d ((M : Int) - (1 - (biasN E : Int))) := ⟨_, rfl⟩
      have hNe : rfTop mo neg n d ((M : Int) - (1 - (biasN E : Int) - 1)) = N := by
        rw [hN]
        unfold rfTop
        refine (rz_ratio (Nat.mul_ne_zero hd (Nat.ne_of_gt (pp _))) (Nat.mul_ne_zero hd (Nat.ne_of_gt (pp _))) ?_).1
        have e1 : ∀ x y : Nat, n * 2 ^ x * (d * 2 ^ y) = n * d * 2 ^ (x + y) := fun x y => by rw [Nat.pow_add]; grind
        have e2 : ∀ x y : Nat, n * 2 * 2 ^ x * (d * 2 ^ y) = n * d * 2 ^ (x + y + 1) := fun x y => by rw [Nat.pow_succ, Nat.pow_add]; grind
        rw [e1, e2]
        congr 2
        omega
      have hNle : N ≤ 2 ^ (M + 1) := by rw [hN]; exact rfTop_le hn2 hd (by rw [hrR2]; omega) (by rw [hrR2]; omega)
      have hNge : 2 ^ M ≤ N := by
        rw [← hNe]
        refine top_ge hd (R := R) (by omega) ?_
        rw [hR]; exact true_low hn hd
      rw [hNe, bitLen_top2 hNge hNle]
      have hinf : ¬ infN E M ≤ 0 * 2 ^ M + N := by
        unfold infN
        rw [Nat.pow_succ] at hNle
        have : 3 * 2 ^ M ≤ (2 ^ E - 1) * 2 ^ M := Nat.mul_le_mul_right _ (by omega)
        have := pp M
        omega
      have hgot : rfN E M mo neg (n * 2) d = sgnd E M neg (0 * 2 ^ M + N) := by
        unfold rfN
        rw [if_neg hn2, hE2, if_neg (by omega), ← hN, show ((1 : Int) - (biasN E : Int) - (1 - (biasN E : Int))).toNat = 0 by omega]
        unfold pkN
        rw [if_neg hinf]
      rw [hgot]
      have hfin := upC_fin (upC_pack (E := E) (M := M) (x := 0 * 2 ^ M + N) neg (by omega))
      have hs := vNum_eq h hfin
      rw [sVal_pack neg hNle (fun h => absurd rfl h) (Nat.lt_trans (by omega) (infN_lt E M)), Nat.pow_zero, Nat.mul_one] at hs
      have hvd := vDen_pos E M (sgnd E M neg (0 * 2 ^ M + N))
      generalize vNum E M (sgnd E M neg (0 * 2 ^ M + N)) = VN at *
      generalize vDen E M (sgnd E M neg (0 * 2 ^ M + N)) = VD at *
      have key : gePow VN VD (1 - (biasN E : Int) + 1) = decide (2 ^ (M + 1) ≤ N) := by
        unfold gePow
        have e3 : VD * 2 ^ (1 - (biasN E : Int) + 1).toNat * 2 ^ (biasN E + M - 1) = VD * (2 ^ (M + 1) * 2 ^ (-(1 - (biasN E : Int) + 1)).toNat) := by
          rw [Nat.mul_assoc, ← Nat.pow_add, ← Nat.pow_add]; congr 2; omega
        have e4 : VN * 2 ^ (-(1 - (biasN E : Int) + 1)).toNat * 2 ^ (biasN E + M - 1) = VD * (N * 2 ^ (-(1 - (biasN E : Int) + 1)).toNat) := by
          rw [Nat.mul_right_comm, hs, Nat.mul_assoc]
        by_cases hc : 2 ^ (M + 1) ≤ N
        · rw [decide_eq_true hc, decide_eq_true_eq]
          refine Nat.le_of_mul_le_mul_right (c := 2 ^ (biasN E + M - 1)) ?_ (pp _)
          rw [e3, e4]
          exact Nat.mul_le_mul_left _ (Nat.mul_le_mul_right _ hc)
        · rw [decide_eq_false hc, decide_eq_false_iff_not]
          intro hh
          have h5 := Nat.mul_le_mul_right (2 ^ (biasN E + M - 1)) hh
          rw [e3, e4] at h5
          exact hc (Nat.le_of_mul_le_mul_right (Nat.le_of_mul_le_mul_left h5 hvd) (pp _))
      rw [key]
      by_cases hc : N = 2 ^ (M + 1)
      · rw [hc, bne_self_eq_false, decide_eq_true (Nat.le_refl _)]; rfl
      · rw [bne_iff_ne.2 hc, decide_eq_false (by omega)]; rfl
    · rw [decide_eq_false h2, if_neg (by rw [hrf]; omega), decide_eq_true (by rw [hrf]; omega)]; rfl

theorem want_ok {E M mo : Nat} {neg : Bool} {n d : Nat} (h : FOk E M) (hn : n ≠ 0) (hd : d ≠ 0) : rfF E M mo neg n d = wfN E M mo neg n d (rfN E M mo neg n d) := by
  have hb1 := biasN_pos h.e2
  have hbi := biasN_le h.e11
  have hbE := bias_pow h.e2
  have hM := h.m52
  obtain ⟨R, hR⟩ : ∃ R, R = trueR n d := ⟨_, rfl⟩
  have hrf := rfR_true hb1 hn hd
  rw [← hR] at hrf
  by_cases hov : (biasN E : Int) < R
  · have e2 : rfE E n d = (biasN E : Int) + 1 := by unfold rfE; rw [hrf]; omega
    unfold rfF wfN
    rw [if_neg hn, if_neg hn, e2, if_pos (by omega), gePow_eq hn hd, ← hR, decide_eq_true (show (biasN E : Int) + 1 ≤ R by omega), Bool.or_true, if_pos rfl]
  · obtain ⟨e, he⟩ : ∃ e, e = max R (1 - (biasN E : Int)) := ⟨_, rfl⟩
    have e2 : rfE E n d = e := by unfold rfE; rw [hrf]; omega
    obtain ⟨D, hD⟩ : ∃ D : Nat, D = (e - (1 - (biasN E : Int))).toNat := ⟨_, rfl⟩
    obtain ⟨K, hK⟩ : ∃ K, K = (M : Int) - e := ⟨_, rfl⟩
    obtain ⟨N, hN⟩ : ∃ N, N = rfTop mo neg n d K := ⟨_, rfl⟩
    have hNle : N ≤ 2 ^ (M + 1) := by rw [hN]; exact rfTop_le hn hd (by rw [hrf]; omega) (by rw [hrf]; omega)
    have hNge : D ≠ 0 → 2 ^ M ≤ N := fun hD0 => by
      rw [hN]
      refine top_ge hd (R := R) (by omega) ?_
      rw [hR]; exact true_low hn hd
    have hgp : gePow n d ((biasN E : Int) + 1) = false := by rw [gePow_eq hn hd, ← hR]; exact decide_eq_false (by omega)
    have eF : rfF E M mo neg n d = pkF E M D N (rfSm n d K) (rfTiny E M mo neg n d) := by unfold rfF; rw [if_neg hn, e2, if_neg (by omega), ← hK, ← hN, ← hD]
    have eN : rfN E M mo neg n d = pkN E M mo neg D N (rfSm n d K) (rfTiny E M mo neg n d) := by unfold rfN; rw [if_neg hn, e2, if_neg (by omega), ← hK, ← hN, ← hD]
    rw [eF, eN]
    unfold pkF pkN wfN
    rw [if_neg hn, hgp, Bool.or_false]
    by_cases hinf : infN E M ≤ D * 2 ^ M + N
    · rw [if_pos hinf, if_pos hinf]
      have hq := quot_lt (n := n) (d := d) (M := M) (K := K) (R := R) hd (by omega) (by rw [hR]; exact true_up hn hd)
      have hN2 : 2 ^ (M + 1) ≤ N := by
        unfold infN at hinf
        have h5 : D * 2 ^ M ≤ (2 ^ E - 3) * 2 ^ M := Nat.mul_le_mul_right _ (by omega)
        have h6 : (2 ^ E - 1) * 2 ^ M = (2 ^ E - 3) * 2 ^ M + 2 * 2 ^ M := by rw [← Nat.add_mul]; congr 1; omega
        rw [Nat.pow_succ]
        omega
      have hrd : rdX mo neg (n * 2 ^ K.toNat / (d * 2 ^ (-K).toNat) % 2 == 1) (hfX (n * 2 ^ K.toNat) (d * 2 ^ (-K).toNat)) (smX (n * 2 ^ K.toNat) (d * 2 ^ (-K).toNat)) = true := by
        have h7 : N = n * 2 ^ K.toNat / (d * 2 ^ (-K).toNat) + (if rdX mo neg (n * 2 ^ K.toNat / (d * 2 ^ (-K).toNat) % 2 == 1) (hfX (n * 2 ^ K.toNat) (d * 2 ^ (-K).toNat)) (smX (n * 2 ^ K.toNat) (d * 2 ^ (-K).toNat)) then 1 else 0) := hN
        by_cases hc : rdX mo neg (n * 2 ^ K.toNat / (d * 2 ^ (-K).toNat) % 2 == 1) (hfX (n * 2 ^ K.toNat) (d * 2 ^ (-K).toNat)) (smX (n * 2 ^ K.toNat) (d * 2 ^ (-K).toNat)) = true
        · exact hc
        · rw [if_neg hc] at h7; omega
      have hovB := rd_ov hrd
      have hf : finB E M (ovN E M mo neg) = false := by
        unfold ovN
        rw [hovB, if_neg (by decide)]
        unfold finB
        rw [decide_eq_false_iff_not]
        intro hh
        apply hh
        rw [fExp_sgnd neg (infN_lt E M)]
        unfold infN
        exact Nat.mul_div_cancel _ (pp _)
      rw [hf]
      rfl
    · rw [if_neg hinf, if_neg hinf]
      have hx : D * 2 ^ M + N < infN E M := by omega
      have hfe := upC_pack (E := E) (M := M) (x := D * 2 ^ M + N) neg hx
      have hf : finB E M (sgnd E M neg (D * 2 ^ M + N)) = true := by unfold finB; exact decide_eq_true hfe
      rw [hf]
      simp only [Bool.not_true, Bool.false_eq_true, if_false]
      have hs := vNum_eq h (upC_fin hfe)
      rw [sVal_pack neg hNle hNge (Nat.lt_trans hx (infN_lt E M))] at hs
      have hvd := vDen_pos E M (sgnd E M neg (D * 2 ^ M + N))
      generalize vNum E M (sgnd E M neg (D * 2 ^ M + N)) = VN at *
      generalize vDen E M (sgnd E M neg (D * 2 ^ M + N)) = VD at *
      have hsm : (VN * d = n * VD) ↔ rfSm n d K = false := by
        have hd1 : d * 2 ^ (-K).toNat ≠ 0 := Nat.mul_ne_zero hd (Nat.ne_of_gt (pp _))
        have hrz := rz_is (mo := mo) (neg := neg) (n := n * 2 ^ K.toNat) hd1
        have hNN : rzN mo neg (n * 2 ^ K.toNat) (d * 2 ^ (-K).toNat) = N := by rw [hN]; rfl
        rw [hNN] at hrz
        have e5 : rfSm n d K = smX (n * 2 ^ K.toNat) (d * 2 ^ (-K).toNat) := rfl
        rw [e5, ← hrz]
        have e6 : VN * d * 2 ^ (biasN E + M - 1) = VD * (N * d * 2 ^ D) := by
          rw [Nat.mul_right_comm, hs]; grind
        have e7 : n * VD * 2 ^ (biasN E + M - 1) = VD * (n * 2 ^ (biasN E + M - 1)) := by grind
        constructor
        · intro hh
          have e8 : VD * (N * d * 2 ^ D) = VD * (n * 2 ^ (biasN E + M - 1)) := by rw [← e6, ← e7, hh]
          have e9 := Nat.eq_of_mul_eq_mul_left hvd e8
          have e10 := sp_eq (n := n) (d := N * d) (m := 0) (e := 0) (a := biasN E + M - 1) (b := D) (a' := K.toNat) (b' := (-K).toNat) (by omega) e9.symm
          rw [e10, Nat.mul_assoc]
        · intro hh
          have e10 : n * 2 ^ K.toNat = N * d * 2 ^ (-K).toNat := by rw [hh, Nat.mul_assoc]
          have e9 := sp_eq (n := n) (d := N * d) (m := 0) (e := 0) (a := K.toNat) (b := (-K).toNat) (a' := biasN E + M - 1) (b' := D) (by omega) e10
          refine Nat.eq_of_mul_eq_mul_right (pp (biasN E + M - 1)) ?_
          rw [e6, e7, e9]
      rw [tiny_ok h hn hd]
      cases hsb : rfSm n d K with
      | false => rw [if_pos (hsm.2 hsb)]; rfl
      | true =>
        have hne : ¬ VN * d = n * VD := fun hh => by rw [hsm.1 hh] at hsb; cases hsb
        rw [if_neg hne]; rfl

end Go.Proofs.Ygcoaj
