/-
  WALKS: soft.roundPack.
-/
import Derived.Test.YgcoajSf0
import Derived.Test.YgcoajLgP
set_option linter.unusedVariables false
set_option linter.unusedSimpArgs false
namespace Go.Proofs.Ygcoaj
open Go.RowKit

theorem cmpZ_scale {a b c : Nat} (hc : 0 < c) : cmpZ (a * c) (b * c) = cmpZ a b := by
  unfold cmpZ
  by_cases h1 : a < b
  · rw [if_pos h1, if_pos (Nat.mul_lt_mul_of_pos_right h1 hc)]
  · rw [if_neg h1, if_neg (fun h => h1 (Nat.lt_of_mul_lt_mul_right h))]
    by_cases h2 : a = b
    · rw [if_pos h2, if_pos (by rw [h2])]
    · rw [if_neg h2, if_neg (fun h => h2 (Nat.eq_of_mul_eq_mul_right hc h))]
theorem cut_low {S k : Nat} (hk0 : 1 ≤ k) (hk : k ≤ 64) : cutR S k = S % 2 ^ k * 2 ^ (64 - k) := by
  unfold cutR
  rw [if_neg (by omega), if_pos hk]
  have e : (18446744073709551616 : Nat) = 2 ^ k * 2 ^ (64 - k) := by rw [← Nat.pow_add, show k + (64 - k) = 64 by omega]
  rw [e, Nat.mul_mod_mul_right]
theorem cut_high {S k : Nat} (hS : S < 18446744073709551616) (hk : 64 < k) : S % 2 ^ k = S ∧ S * 2 < 2 ^ k := by
  have h1 : 2 ^ 65 ≤ 2 ^ k := Nat.pow_le_pow_right (by decide) (by omega)
  have h2 : (2 : Nat) ^ 65 = 36893488147419103232 := by decide
  rw [h2] at h1
  exact ⟨Nat.mod_eq_of_lt (by omega), by omega⟩
theorem cut_half {S k : Nat} (hS : S < 18446744073709551616) (hk0 : 1 ≤ k) : hfS (cutR S k) = hfX S (2 ^ k) := by
  unfold hfS hfX
  by_cases hk : k ≤ 64
  · rw [cut_low hk0 hk, ← cmpZ_scale (a := S % 2 ^ k * 2 ^ (64 - k)) (b := 9223372036854775808) (c := 2) (by decide), ← cmpZ_scale (a := S % 2 ^ k * 2) (b := 2 ^ k) (c := 2 ^ (64 - k)) (pp _)]
    have e : (9223372036854775808 * 2 : Nat) = 2 ^ k * 2 ^ (64 - k) := by rw [← Nat.pow_add, show k + (64 - k) = 64 by omega]
    rw [e]
    congr 1
    grind
  · obtain ⟨h1, h2⟩ := cut_high hS (show 64 < k by omega)
    have h3 : cutR S k < 9223372036854775808 := by
      unfold cutR
      rw [if_neg (by omega), if_neg hk]
      split <;> decide
    rw [h1, cmpZ_lt h2, cmpZ_lt h3]
theorem cut_some {S k : Nat} (hS : S < 18446744073709551616) (hk0 : 1 ≤ k) : smS (cutR S k) = smX S (2 ^ k) := by
  unfold smS smX
  congr 1
  by_cases hk : k ≤ 64
  · rw [cut_low hk0 hk]
    by_cases h0 : S % 2 ^ k = 0
    · rw [h0, Nat.zero_mul]
    · rw [beq_eq_false_iff_ne.2 h0, beq_eq_false_iff_ne.2 (Nat.mul_ne_zero h0 (Nat.ne_of_gt (pp _)))]
  · obtain ⟨h1, h2⟩ := cut_high hS (show 64 < k by omega)
    rw [h1]
    unfold cutR
    rw [if_neg (by omega), if_neg hk]
    by_cases h0 : S = 0
    · rw [if_pos h0, h0]
    · rw [if_neg h0, beq_eq_false_iff_ne.2 h0]; rfl
theorem cutR_lt (S k : Nat) : cutR S k < 18446744073709551616 := by
  unfold cutR
  split
  · decide
  · split
    · exact Nat.mod_lt _ (by decide)
    · split <;> decide

def rpR (exp : Int) (sig : Nat) : Int := exp + (bitLen sig : Int) - 1
def rpS (sig : Nat) : Nat := sig * 2 ^ (64 - bitLen sig)
def rpE (E : Nat) (exp : Int) (sig : Nat) : Int := max (rpR exp sig) (1 - (biasN E : Int))
def rpK (E M : Nat) (exp : Int) (sig : Nat) : Nat := (63 - (M : Int) + rpE E exp sig - rpR exp sig).toNat
def rdP (mo : Nat) (neg : Bool) (n m : Nat) : Bool := rdX mo neg (n / m % 2 == 1) (hfX n m) (smX n m)
def rpTiny (E M mo : Nat) (neg : Bool) (exp : Int) (sig : Nat) : Bool :=
  if rpR exp sig = 1 - (biasN E : Int) - 1 then (!rdP mo neg (rpS sig) (2 ^ (63 - M)) || (rpS sig / 2 ^ (63 - M) != 2 ^ (M + 1) - 1)) else decide (rpR exp sig < 1 - (biasN E : Int))
def rpN (E M mo : Nat) (neg : Bool) (exp : Int) (sig : Nat) : Nat :=
  if sig = 0 then sgnd E M neg 0 else
  if (biasN E : Int) < rpE E exp sig then ovN E M mo neg else
  pkN E M mo neg (rpE E exp sig - (1 - (biasN E : Int))).toNat (rzN mo neg (rpS sig) (2 ^ rpK E M exp sig)) (smX (rpS sig) (2 ^ rpK E M exp sig)) (rpTiny E M mo neg exp sig)
def rpF (E M mo : Nat) (neg : Bool) (exp : Int) (sig : Nat) : Nat :=
  if sig = 0 then 0 else
  if (biasN E : Int) < rpE E exp sig then 20 else
  pkF E M (rpE E exp sig - (1 - (biasN E : Int))).toNat (rzN mo neg (rpS sig) (2 ^ rpK E M exp sig)) (smX (rpS sig) (2 ^ rpK E M exp sig)) (rpTiny E M mo neg exp sig)

theorem rpS_range {sig : Nat} (h : sig < 18446744073709551616) (h0 : sig ≠ 0) : 9223372036854775808 ≤ rpS sig ∧ rpS sig < 18446744073709551616 := by
  have h1 := bitLen_lt sig
  have h2 := bitLen_le h0
  have h3 := bitLen_pos h0
  have h4 : bitLen sig ≤ 64 := bitLen_le_of_lt (n := 64) h
  unfold rpS
  have e1 : 2 ^ bitLen sig * 2 ^ (64 - bitLen sig) = 18446744073709551616 := by rw [← Nat.pow_add, show bitLen sig + (64 - bitLen sig) = 64 by omega]
  have e2 : 2 ^ (bitLen sig - 1) * 2 ^ (64 - bitLen sig) = 9223372036854775808 := by rw [← Nat.pow_add, show bitLen sig - 1 + (64 - bitLen sig) = 63 by omega]
  rw [← e1, ← e2]
  exact ⟨Nat.mul_le_mul_right _ h2, Nat.mul_lt_mul_of_pos_right h1 (pp _)⟩
theorem rp_top {S k M mo : Nat} {neg : Bool} (hS : S < 18446744073709551616) (hM : M ≤ 52) (hk : 63 - M ≤ k) : S / 2 ^ k < 2 ^ (M + 1) ∧ rzN mo neg S (2 ^ k) ≤ 2 ^ (M + 1) := by
  have h1 : S / 2 ^ k < 2 ^ (M + 1) := by
    refine (Nat.div_lt_iff_lt_mul (pp _)).2 ?_
    rw [← Nat.pow_add]
    have : 2 ^ 64 ≤ 2 ^ (M + 1 + k) := Nat.pow_le_pow_right (by decide) (by omega)
    exact Nat.lt_of_lt_of_le hS this
  have h2 : rzN mo neg S (2 ^ k) ≤ S / 2 ^ k + 1 := by unfold rzN; split <;> omega
  exact ⟨h1, by omega⟩

set_option maxRecDepth 100000 in
set_option maxHeartbeats 4000000 in
theorem roundPack_zero (E M : Nat) (h : FOk E M) (mo : Nat) (neg : Bool) (exp : Int) (sig : Nat) (hsig : sig < 18446744073709551616) (hx0 : -10000 ≤ exp) (hx1 : exp ≤ 10000) (w : World) (h0 : sig = 0) :
    Calls Oajg.prog 85 #[.agg #[.int .u8 (E : Int), .int .u8 (M : Int)], .int .u8 (mo : Int), .bool neg, .int .i16 exp, .int .u64 (sig : Int)] w fun e w' => e = .returned (.tuple #[.int .u64 (rpN E M mo neg exp sig : Nat), .int .u8 (rpF E M mo neg exp sig : Nat)]) ∧ Below w.heap.size w w' := by
  have hF := sf_box w E M
  have HZ : Hid (∀ w, Calls Oajg.prog 132 #[.agg #[.int .u8 (E : Int), .int .u8 (M : Int)], .bool neg] w fun e w' => e = .returned (.int .u64 (sgnd E M neg 0 : Nat)) ∧ Below w.heap.size w w') := zeroS_ok E M h neg
  have HR : Hid (rpN E M mo neg exp sig = sgnd E M neg 0 ∧ rpF E M mo neg exp sig = 0) := ⟨by unfold rpN; rw [if_pos h0], by unfold rpF; rw [if_pos h0]⟩
  have j0 : ((sig : Int) == 0) = true := by simp [h0]
  rw [HR.out.1, HR.out.2]
  generalize sgnd E M neg 0 = Z at *
  clear h h0 HR
  go_enter Oajg.func85, Oajg.ntmps85
  go_wp2_with fail
  refine Calls.mono (HZ.out _) ?_
  rintro _ w1 ⟨rfl, hb⟩
  replace hF := sf_next hF hb
  clear hb
  go_wp2_with fail
  go_ret2
  exact ⟨rfl, hF.2.2.2⟩

set_option maxRecDepth 100000 in
set_option maxHeartbeats 4000000 in
theorem roundPack_over (E M : Nat) (h : FOk E M) (mo : Nat) (neg : Bool) (exp : Int) (sig : Nat) (hsig : sig < 18446744073709551616) (hx0 : -10000 ≤ exp) (hx1 : exp ≤ 10000) (w : World) (h0 : sig ≠ 0) (hcase : (biasN E : Int) < rpR exp sig) :
    Calls Oajg.prog 85 #[.agg #[.int .u8 (E : Int), .int .u8 (M : Int)], .int .u8 (mo : Int), .bool neg, .int .i16 exp, .int .u64 (sig : Int)] w fun e w' => e = .returned (.tuple #[.int .u64 (rpN E M mo neg exp sig : Nat), .int .u8 (rpF E M mo neg exp sig : Nat)]) ∧ Below w.heap.size w w' := by
  have hF := sf_box w E M
  have HB : Hid (∀ w, Calls Oajg.prog 129 #[.agg #[.int .u8 (E : Int), .int .u8 (M : Int)]] w fun e w' => e = .returned (.int .i16 (biasN E : Nat)) ∧ Below w.heap.size w w') := bias_ok E M h
  have HC : Hid (∀ w, Calls Oajg.prog 133 #[.int .u64 (sig : Int)] w fun e w' => e = .returned (.int .u8 ((64 - bitLen sig : Nat) : Int)) ∧ w' = w) := clz_ok sig hsig h0
  have hbi := biasN_le h.e11
  have hbi1 := biasN_pos h.e2
  have hM52 := h.m52
  have hM2 := h.m2
  have hE11 := h.e11
  obtain ⟨hS1, hS2⟩ := rpS_range hsig h0
  have hL : bitLen sig ≤ 64 := bitLen_le_of_lt (n := 64) hsig
  have hL1 := bitLen_pos h0
  obtain ⟨LD, hLD⟩ : ∃ LD, LD = 64 - bitLen sig := ⟨_, rfl⟩
  obtain ⟨S, HSS⟩ : ∃ S, Hid (rpS sig = S) := ⟨_, rfl⟩
  have kS : IntKind.u64.wrap ((sig : Int) * 2 ^ LD) = (S : Int) := by
    refine wrap64' ?_ (by rw [← HSS.out]; exact hS2)
    rw [← HSS.out, hLD]; unfold rpS; push_cast; rfl
  rw [HSS.out] at hS1 hS2
  obtain ⟨R, HRR⟩ : ∃ R, Hid (rpR exp sig = R) := ⟨_, rfl⟩
  have hR := HRR.out
  have kR : exp - (LD : Int) + 63 = R := by rw [← hR, hLD]; unfold rpR; omega
  have hRb : -10001 ≤ R ∧ R ≤ 10063 := by rw [← hR]; unfold rpR; omega
  obtain ⟨hRb1, hRb2⟩ := hRb
  rw [hR] at hcase
  rw [← hLD] at HC
  have hLDb : LD ≤ 63 := by omega
  have j0 : ((sig : Int) == 0) = false := by simp; omega
  have HO : Hid (∀ w, Calls Oajg.prog 134 #[.agg #[.int .u8 (E : Int), .int .u8 (M : Int)], .int .u8 (mo : Int), .bool neg] w fun e w' => e = .returned (.tuple #[.int .u64 (ovN E M mo neg : Nat), .int .u8 20]) ∧ Below w.heap.size w w') := overflowS_ok E M h mo neg
  have hE' : rpE E exp sig = R := by unfold rpE; rw [hR]; omega
  have HRES : Hid (rpN E M mo neg exp sig = ovN E M mo neg ∧ rpF E M mo neg exp sig = 20) := ⟨by unfold rpN; rw [if_neg h0, hE', if_pos hcase], by unfold rpF; rw [if_neg h0, hE', if_pos hcase]⟩
  rw [HRES.out.1, HRES.out.2]
  generalize ovN E M mo neg = OV at *
  generalize biasN E = Bi at *
  clear h h0 HRES hE' hR HRR hL hL1 hLD hS1
  go_enter Oajg.func85, Oajg.ntmps85
  go_wp2_with fail
  refine Calls.mono (HC.out _) ?_
  rintro _ w1 ⟨rfl, hw⟩
  subst w1
  clear HC
  go_wp2_with fail
  refine Calls.mono (HB.out _) ?_
  rintro _ w2 ⟨rfl, hb⟩
  replace hF := sf_next hF hb
  clear hb
  go_wp2_with fail
  refine Calls.mono (HB.out _) ?_
  rintro _ w3 ⟨rfl, hb⟩
  replace hF := sf_next hF hb
  clear hb HB
  go_wp2_with fail
  refine Calls.mono (HO.out _) ?_
  rintro _ w4 ⟨rfl, hb⟩
  replace hF := sf_next hF hb
  clear hb
  go_wp2_with fail
  go_ret2
  exact ⟨rfl, hF.2.2.2⟩

set_option maxRecDepth 100000 in
set_option maxHeartbeats 4000000 in
theorem roundPack_norm (E M : Nat) (h : FOk E M) (mo : Nat) (neg : Bool) (exp : Int) (sig : Nat) (hsig : sig < 18446744073709551616) (hx0 : -10000 ≤ exp) (hx1 : exp ≤ 10000) (w : World) (h0 : sig ≠ 0) (hcase : 1 - (biasN E : Int) ≤ rpR exp sig ∧ rpR exp sig ≤ biasN E) :
    Calls Oajg.prog 85 #[.agg #[.int .u8 (E : Int), .int .u8 (M : Int)], .int .u8 (mo : Int), .bool neg, .int .i16 exp, .int .u64 (sig : Int)] w fun e w' => e = .returned (.tuple #[.int .u64 (rpN E M mo neg exp sig : Nat), .int .u8 (rpF E M mo neg exp sig : Nat)]) ∧ Below w.heap.size w w' := by
  have hF := sf_box w E M
  have HB : Hid (∀ w, Calls Oajg.prog 129 #[.agg #[.int .u8 (E : Int), .int .u8 (M : Int)]] w fun e w' => e = .returned (.int .i16 (biasN E : Nat)) ∧ Below w.heap.size w w') := bias_ok E M h
  have HC : Hid (∀ w, Calls Oajg.prog 133 #[.int .u64 (sig : Int)] w fun e w' => e = .returned (.int .u8 ((64 - bitLen sig : Nat) : Int)) ∧ w' = w) := clz_ok sig hsig h0
  have hbi := biasN_le h.e11
  have hbi1 := biasN_pos h.e2
  have hM52 := h.m52
  have hM2 := h.m2
  have hE11 := h.e11
  obtain ⟨hS1, hS2⟩ := rpS_range hsig h0
  have hL : bitLen sig ≤ 64 := bitLen_le_of_lt (n := 64) hsig
  have hL1 := bitLen_pos h0
  obtain ⟨LD, hLD⟩ : ∃ LD, LD = 64 - bitLen sig := ⟨_, rfl⟩
  obtain ⟨S, HSS⟩ : ∃ S, Hid (rpS sig = S) := ⟨_, rfl⟩
  have kS : IntKind.u64.wrap ((sig : Int) * 2 ^ LD) = (S : Int) := by
    refine wrap64' ?_ (by rw [← HSS.out]; exact hS2)
    rw [← HSS.out, hLD]; unfold rpS; push_cast; rfl
  rw [HSS.out] at hS1 hS2
  obtain ⟨R, HRR⟩ : ∃ R, Hid (rpR exp sig = R) := ⟨_, rfl⟩
  have hR := HRR.out
  have kR : exp - (LD : Int) + 63 = R := by rw [← hR, hLD]; unfold rpR; omega
  have hRb : -10001 ≤ R ∧ R ≤ 10063 := by rw [← hR]; unfold rpR; omega
  obtain ⟨hRb1, hRb2⟩ := hRb
  rw [hR] at hcase
  rw [← hLD] at HC
  have hLDb : LD ≤ 63 := by omega
  have j0 : ((sig : Int) == 0) = false := by simp; omega
  have hE' : rpE E exp sig = R := by unfold rpE; rw [hR]; omega
  obtain ⟨k, hk⟩ : ∃ k : Nat, k = (63 - (M : Int) + (R) - R).toNat := ⟨_, rfl⟩
  have kk : 63 - (M : Int) + (R) - R = (k : Int) := by omega
  have hK : rpK E M exp sig = k := by unfold rpK; rw [hE', hR, hk]
  have hk1 : 1 ≤ k := by omega
  have hk2 : k ≤ 20000 := by omega
  have hkM : 63 - M ≤ k := by omega
  obtain ⟨D, hD⟩ : ∃ D : Nat, D = (R - (1 - (biasN E : Int))).toNat := ⟨_, rfl⟩
  have kD : (R) - (1 - (biasN E : Int)) = (D : Int) := by omega
  have hDE : D ≤ 2 ^ E := by
    have e1 : 2 ^ E = 2 * 2 ^ (E - 1) := by
      have := h.e2
      rw [← Nat.pow_succ']; congr 1; omega
    have e2 : biasN E = 2 ^ (E - 1) - 1 := rfl
    have := pp (E - 1)
    omega
  obtain ⟨hTQ, hTL⟩ := rp_top (mo := mo) (neg := neg) hS2 hM52 hkM
  have hM53 : 2 ^ (M + 1) ≤ 2 ^ 53 := Nat.pow_le_pow_right (by decide) (by omega)
  obtain ⟨Q, hQ⟩ : ∃ Q, Q = S / 2 ^ k := ⟨_, rfl⟩
  obtain ⟨RS, hRS⟩ : ∃ RS, RS = cutR S k := ⟨_, rfl⟩
  obtain ⟨SM, hSMe⟩ : ∃ SM, SM = smX S (2 ^ k) := ⟨_, rfl⟩
  have hRS64 : RS < 18446744073709551616 := by rw [hRS]; exact cutR_lt _ _
  have kSM : ((RS : Int) == 0) = !SM := by
    rw [hSMe, ← cut_some hS2 hk1, ← hRS]
    unfold smS
    by_cases h : RS = 0
    · subst h; rfl
    · rw [beq_eq_false_iff_ne.2 h]; simp; omega
  have HCUT : Hid (∀ w, Calls Oajg.prog 135 #[.int .u64 (S : Int), .int .i16 (k : Int)] w fun e w' => e = .returned (.tuple #[.int .u64 (Q : Int), .int .u64 (RS : Int)]) ∧ Below w.heap.size w w') := fun w => by
    have := cut_ok S k hS2 hk1 hk2 w
    rw [← hQ, ← hRS] at this
    exact this
  obtain ⟨RD, hRD⟩ : ∃ RD, RD = rdX mo neg (Q % 2 == 1) (hfX S (2 ^ k)) (smX S (2 ^ k)) := ⟨_, rfl⟩
  have HRA : Hid (∀ w, Calls Oajg.prog 136 #[.int .u8 (mo : Int), .bool neg, .int .u64 (Q : Int), .int .u64 (RS : Int)] w fun e w' => e = .returned (.bool RD) ∧ Below w.heap.size w w') := fun w => by
    have := raisesS_ok mo neg Q RS (by omega) hRS64 w
    rw [hRS, cut_half hS2 hk1, cut_some hS2 hk1, ← hRD, ← hRS] at this
    exact this
  obtain ⟨N, hN⟩ : ∃ N, N = rzN mo neg S (2 ^ k) := ⟨_, rfl⟩
  have hNQ : N = Q + (if RD then 1 else 0) := by rw [hN, hRD, hQ]; rfl
  rw [← hN] at hTL
  have eTiny : rpTiny E M mo neg exp sig = false := by unfold rpTiny; rw [hR, if_neg (by omega)]; simpa using hcase.1
  have HI : Hid (∀ w, Calls Oajg.prog 84 #[.agg #[.int .u8 (E : Int), .int .u8 (M : Int)], .bool false] w fun e w' => e = .returned (.int .u64 (infN E M : Nat)) ∧ Below w.heap.size w w') := inf_ok E M h false
  have HO : Hid (∀ w, Calls Oajg.prog 134 #[.agg #[.int .u8 (E : Int), .int .u8 (M : Int)], .int .u8 (mo : Int), .bool neg] w fun e w' => e = .returned (.tuple #[.int .u64 (ovN E M mo neg : Nat), .int .u8 20]) ∧ Below w.heap.size w w') := overflowS_ok E M h mo neg
  have HZ : Hid (∀ w, Calls Oajg.prog 132 #[.agg #[.int .u8 (E : Int), .int .u8 (M : Int)], .bool neg] w fun e w' => e = .returned (.int .u64 (sgnd E M neg 0 : Nat)) ∧ Below w.heap.size w w') := zeroS_ok E M h neg
  have hinf := infN_lt E M
  have hp : 2 ^ (E + M) ≤ 9223372036854775808 := pow2_lt64 _ (by omega)
  have hDM : D * 2 ^ M ≤ 2 ^ (E + M) := by rw [Nat.pow_add]; exact Nat.mul_le_mul_right _ hDE
  have hDb : D ≤ 2 ^ 11 := Nat.le_trans hDE (Nat.pow_le_pow_right (by decide) hE11)
  obtain ⟨y, hy⟩ : ∃ y, y = D * 2 ^ M := ⟨_, rfl⟩
  obtain ⟨x, hx⟩ : ∃ x, x = D * 2 ^ M + N := ⟨_, rfl⟩
  have hxy : (y : Int) + (N : Int) = (x : Int) := by omega
  have hx64 : x < 18446744073709551616 := by omega
  have hy64 : y < 18446744073709551616 := by omega
  have ky : IntKind.u64.wrap ((D : Int) * 2 ^ M) = (y : Int) := by
    refine wrap64' ?_ hy64
    rw [hy]; push_cast; rfl
  have HOR : Hid (x < infN E M → bits .or .u64 (x : Int) ((sgnd E M neg 0 : Nat) : Int) = ((sgnd E M neg x : Nat) : Int)) := fun hlt => or_zero_ok h neg (by omega)
  have e1 : rpN E M mo neg exp sig = pkN E M mo neg D N SM false := by unfold rpN; rw [if_neg h0, hE', if_neg (by omega), eTiny, hK, HSS.out, ← hN, ← hD, ← hSMe]
  have e2 : rpF E M mo neg exp sig = pkF E M D N SM false := by unfold rpF; rw [if_neg h0, hE', if_neg (by omega), eTiny, hK, HSS.out, ← hN, ← hD, ← hSMe]
  have HRN : Hid (rpN E M mo neg exp sig = if infN E M ≤ x then ovN E M mo neg else sgnd E M neg x) := by show _ = _; rw [e1]; unfold pkN; rw [hx]
  have HRF : Hid (rpF E M mo neg exp sig = if infN E M ≤ x then 20 else if !SM then 0 else if false then 24 else 16) := by show _ = _; rw [e2]; unfold pkF; rw [hx]
  have hQb : Q < 18446744073709551615 := by omega
  have hNb : N < 18446744073709551616 := by omega
  clear e1 e2 hinf hp hDM hy hx hDE hD hK hN hTL hTQ hM53 eTiny hE' hQ hRS hRD hSMe hS1 HSS HRR hR h h0 hk hL hL1 hLD
  generalize rpN E M mo neg exp sig = RN at *
  generalize rpF E M mo neg exp sig = RF at *
  generalize infN E M = I at *
  generalize ovN E M mo neg = OV at *
  generalize sgnd E M neg 0 = Z0 at *
  generalize sgnd E M neg x = ZX at *
  generalize biasN E = Bi at *
  obtain ⟨hge, hle⟩ := hcase
  have jE : (R == 1 - (Bi : Int) - 1) = false := by simp; omega
  have jL : decide (R < 1 - (Bi : Int)) = false := by rw [decide_eq_false_iff_not]; omega
  go_enter Oajg.func85, Oajg.ntmps85
  go_wp2_with fail
  refine Calls.mono (HC.out _) ?_
  rintro _ w1 ⟨rfl, hw⟩
  subst w1
  clear HC
  go_wp2_with fail
  refine Calls.mono (HB.out _) ?_
  rintro _ w2 ⟨rfl, hb⟩
  replace hF := sf_next hF hb
  clear hb
  go_wp2_with fail
  refine Calls.mono (HB.out _) ?_
  rintro _ w3 ⟨rfl, hb⟩
  replace hF := sf_next hF hb
  clear hb HB
  go_wp2_with fail
  refine Calls.mono (HCUT.out _) ?_
  rintro _ w6 ⟨rfl, hb⟩
  replace hF := sf_next hF hb
  clear hb HCUT
  go_wp2_with fail
  refine Calls.mono (HRA.out _) ?_
  rintro _ w7 ⟨rfl, hb⟩
  replace hF := sf_next hF hb
  clear hb HRA
  cases RD with
  | false =>
    have hNQ2 : N = Q := by rw [hNQ]; rfl
    clear hNQ
    subst hNQ2
    go_wp2_with fail
    refine Calls.mono (HI.out _) ?_
    rintro _ w8 ⟨rfl, hb⟩
    replace hF := sf_next hF hb
    clear hb
    by_cases hov : I ≤ x
    · have hovI : (I : Int) ≤ (x : Int) := by omega
      have HRN2 : Hid (RN = OV) := by show _ = _; rw [HRN.out, if_pos hov]
      have HRF2 : Hid (RF = 20) := by show _ = _; rw [HRF.out, if_pos hov]
      clear hov HRN HRF
      go_wp2_with fail
      refine Calls.mono (HO.out _) ?_
      rintro _ w9 ⟨rfl, hb⟩
      replace hF := sf_next hF hb
      clear hb
      go_wp2_with fail
      go_ret2
      exact ⟨by rw [HRN2.out, HRF2.out]; rfl, hF.2.2.2⟩
    · have hor := HOR.out (by omega)
      have HRN2 : Hid (RN = ZX) := by show _ = _; rw [HRN.out, if_neg hov]
      have HRF2 : Hid (RF = if !SM then 0 else if false then 24 else 16) := by show _ = _; rw [HRF.out, if_neg hov]; try simp
      have hlt1 : (x : Int) < (I : Int) := by omega
      have hlt2 : x < I := by omega
      clear hov HRN HRF HOR
      cases hsm : SM with
      | false =>
        have jr : ((RS : Int) == 0) = true := by rw [kSM, hsm]; rfl
        have HRF3 : Hid (RF = 0) := by show _ = _; rw [HRF2.out, hsm]; rfl
        clear HRF2 hsm kSM
        go_wp2_with fail
        refine Calls.mono (HZ.out _) ?_
        rintro _ w9 ⟨rfl, hb⟩
        replace hF := sf_next hF hb
        clear hb
        go_wp2_with fail
        go_ret2
        exact ⟨by rw [HRN2.out, HRF3.out]; rfl, hF.2.2.2⟩
      | true =>
        have jr : ((RS : Int) == 0) = false := by rw [kSM, hsm]; rfl
        have HRF3 : Hid (RF = 16) := by show _ = _; rw [HRF2.out, hsm]; rfl
        clear HRF2 hsm kSM
        go_wp2_with fail
        refine Calls.mono (HZ.out _) ?_
        rintro _ w9 ⟨rfl, hb⟩
        replace hF := sf_next hF hb
        clear hb
        go_wp2_with fail
        go_ret2
        exact ⟨by rw [HRN2.out, HRF3.out]; rfl, hF.2.2.2⟩
  | true =>
    have hNQ2 : N = Q + 1 := by rw [hNQ]; rfl
    clear hNQ
    have kN : (Q : Int) + 1 = (N : Int) := by omega
    clear hNQ2
    go_wp2_with fail
    refine Calls.mono (HI.out _) ?_
    rintro _ w8 ⟨rfl, hb⟩
    replace hF := sf_next hF hb
    clear hb
    by_cases hov : I ≤ x
    · have hovI : (I : Int) ≤ (x : Int) := by omega
      have HRN2 : Hid (RN = OV) := by show _ = _; rw [HRN.out, if_pos hov]
      have HRF2 : Hid (RF = 20) := by show _ = _; rw [HRF.out, if_pos hov]
      clear hov HRN HRF
      go_wp2_with fail
      refine Calls.mono (HO.out _) ?_
      rintro _ w9 ⟨rfl, hb⟩
      replace hF := sf_next hF hb
      clear hb
      go_wp2_with fail
      go_ret2
      exact ⟨by rw [HRN2.out, HRF2.out]; rfl, hF.2.2.2⟩
    · have hor := HOR.out (by omega)
      have HRN2 : Hid (RN = ZX) := by show _ = _; rw [HRN.out, if_neg hov]
      have HRF2 : Hid (RF = if !SM then 0 else if false then 24 else 16) := by show _ = _; rw [HRF.out, if_neg hov]; try simp
      have hlt1 : (x : Int) < (I : Int) := by omega
      have hlt2 : x < I := by omega
      clear hov HRN HRF HOR
      cases hsm : SM with
      | false =>
        have jr : ((RS : Int) == 0) = true := by rw [kSM, hsm]; rfl
        have HRF3 : Hid (RF = 0) := by show _ = _; rw [HRF2.out, hsm]; rfl
        clear HRF2 hsm kSM
        go_wp2_with fail
        refine Calls.mono (HZ.out _) ?_
        rintro _ w9 ⟨rfl, hb⟩
        replace hF := sf_next hF hb
        clear hb
        go_wp2_with fail
        go_ret2
        exact ⟨by rw [HRN2.out, HRF3.out]; rfl, hF.2.2.2⟩
      | true =>
        have jr : ((RS : Int) == 0) = false := by rw [kSM, hsm]; rfl
        have HRF3 : Hid (RF = 16) := by show _ = _; rw [HRF2.out, hsm]; rfl
        clear HRF2 hsm kSM
        go_wp2_with fail
        refine Calls.mono (HZ.out _) ?_
        rintro _ w9 ⟨rfl, hb⟩
        replace hF := sf_next hF hb
        clear hb
        go_wp2_with fail
        go_ret2
        exact ⟨by rw [HRN2.out, HRF3.out]; rfl, hF.2.2.2⟩

set_option maxRecDepth 100000 in
set_option maxHeartbeats 4000000 in
theorem roundPack_tiny (E M : Nat) (h : FOk E M) (mo : Nat) (neg : Bool) (exp : Int) (sig : Nat) (hsig : sig < 18446744073709551616) (hx0 : -10000 ≤ exp) (hx1 : exp ≤ 10000) (w : World) (h0 : sig ≠ 0) (hcase : rpR exp sig < 1 - (biasN E : Int) ∧ rpR exp sig ≠ 1 - (biasN E : Int) - 1) :
    Calls Oajg.prog 85 #[.agg #[.int .u8 (E : Int), .int .u8 (M : Int)], .int .u8 (mo : Int), .bool neg, .int .i16 exp, .int .u64 (sig : Int)] w fun e w' => e = .returned (.tuple #[.int .u64 (rpN E M mo neg exp sig : Nat), .int .u8 (rpF E M mo neg exp sig : Nat)]) ∧ Below w.heap.size w w' := by
  have hF := sf_box w E M
  have HB : Hid (∀ w, Calls Oajg.prog 129 #[.agg #[.int .u8 (E : Int), .int .u8 (M : Int)]] w fun e w' => e = .returned (.int .i16 (biasN E : Nat)) ∧ Below w.heap.size w w') := bias_ok E M h
  have HC : Hid (∀ w, Calls Oajg.prog 133 #[.int .u64 (sig : Int)] w fun e w' => e = .returned (.int .u8 ((64 - bitLen sig : Nat) : Int)) ∧ w' = w) := clz_ok sig hsig h0
  have hbi := biasN_le h.e11
  have hbi1 := biasN_pos h.e2
  have hM52 := h.m52
  have hM2 := h.m2
  have hE11 := h.e11
  obtain ⟨hS1, hS2⟩ := rpS_range hsig h0
  have hL : bitLen sig ≤ 64 := bitLen_le_of_lt (n := 64) hsig
  have hL1 := bitLen_pos h0
  obtain ⟨LD, hLD⟩ : ∃ LD, LD = 64 - bitLen sig := ⟨_, rfl⟩
  obtain ⟨S, HSS⟩ : ∃ S, Hid (rpS sig = S) := ⟨_, rfl⟩
  have kS : IntKind.u64.wrap ((sig : Int) * 2 ^ LD) = (S : Int) := by
    refine wrap64' ?_ (by rw [← HSS.out]; exact hS2)
    rw [← HSS.out, hLD]; unfold rpS; push_cast; rfl
  rw [HSS.out] at hS1 hS2
  obtain ⟨R, HRR⟩ : ∃ R, Hid (rpR exp sig = R) := ⟨_, rfl⟩
  have hR := HRR.out
  have kR : exp - (LD : Int) + 63 = R := by rw [← hR, hLD]; unfold rpR; omega
  have hRb : -10001 ≤ R ∧ R ≤ 10063 := by rw [← hR]; unfold rpR; omega
  obtain ⟨hRb1, hRb2⟩ := hRb
  rw [hR] at hcase
  rw [← hLD] at HC
  have hLDb : LD ≤ 63 := by omega
  have j0 : ((sig : Int) == 0) = false := by simp; omega
  have hE' : rpE E exp sig = 1 - (biasN E : Int) := by unfold rpE; rw [hR]; omega
  obtain ⟨k, hk⟩ : ∃ k : Nat, k = (63 - (M : Int) + (1 - (biasN E : Int)) - R).toNat := ⟨_, rfl⟩
  have kk : 63 - (M : Int) + (1 - (biasN E : Int)) - R = (k : Int) := by omega
  have hK : rpK E M exp sig = k := by unfold rpK; rw [hE', hR, hk]
  have hk1 : 1 ≤ k := by omega
  have hk2 : k ≤ 20000 := by omega
  have hkM : 63 - M ≤ k := by omega
  obtain ⟨D, hD⟩ : ∃ D : Nat, D = (1 - (biasN E : Int) - (1 - (biasN E : Int))).toNat := ⟨_, rfl⟩
  have kD : (1 - (biasN E : Int)) - (1 - (biasN E : Int)) = (D : Int) := by omega
  have hDE : D ≤ 2 ^ E := by
    have e1 : 2 ^ E = 2 * 2 ^ (E - 1) := by
      have := h.e2
      rw [← Nat.pow_succ']; congr 1; omega
    have e2 : biasN E = 2 ^ (E - 1) - 1 := rfl
    have := pp (E - 1)
    omega
  obtain ⟨hTQ, hTL⟩ := rp_top (mo := mo) (neg := neg) hS2 hM52 hkM
  have hM53 : 2 ^ (M + 1) ≤ 2 ^ 53 := Nat.pow_le_pow_right (by decide) (by omega)
  obtain ⟨Q, hQ⟩ : ∃ Q, Q = S / 2 ^ k := ⟨_, rfl⟩
  obtain ⟨RS, hRS⟩ : ∃ RS, RS = cutR S k := ⟨_, rfl⟩
  obtain ⟨SM, hSMe⟩ : ∃ SM, SM = smX S (2 ^ k) := ⟨_, rfl⟩
  have hRS64 : RS < 18446744073709551616 := by rw [hRS]; exact cutR_lt _ _
  have kSM : ((RS : Int) == 0) = !SM := by
    rw [hSMe, ← cut_some hS2 hk1, ← hRS]
    unfold smS
    by_cases h : RS = 0
    · subst h; rfl
    · rw [beq_eq_false_iff_ne.2 h]; simp; omega
  have HCUT : Hid (∀ w, Calls Oajg.prog 135 #[.int .u64 (S : Int), .int .i16 (k : Int)] w fun e w' => e = .returned (.tuple #[.int .u64 (Q : Int), .int .u64 (RS : Int)]) ∧ Below w.heap.size w w') := fun w => by
    have := cut_ok S k hS2 hk1 hk2 w
    rw [← hQ, ← hRS] at this
    exact this
  obtain ⟨RD, hRD⟩ : ∃ RD, RD = rdX mo neg (Q % 2 == 1) (hfX S (2 ^ k)) (smX S (2 ^ k)) := ⟨_, rfl⟩
  have HRA : Hid (∀ w, Calls Oajg.prog 136 #[.int .u8 (mo : Int), .bool neg, .int .u64 (Q : Int), .int .u64 (RS : Int)] w fun e w' => e = .returned (.bool RD) ∧ Below w.heap.size w w') := fun w => by
    have := raisesS_ok mo neg Q RS (by omega) hRS64 w
    rw [hRS, cut_half hS2 hk1, cut_some hS2 hk1, ← hRD, ← hRS] at this
    exact this
  obtain ⟨N, hN⟩ : ∃ N, N = rzN mo neg S (2 ^ k) := ⟨_, rfl⟩
  have hNQ : N = Q + (if RD then 1 else 0) := by rw [hN, hRD, hQ]; rfl
  rw [← hN] at hTL
  have eTiny : rpTiny E M mo neg exp sig = true := by unfold rpTiny; rw [hR, if_neg hcase.2]; simpa using hcase.1
  have HI : Hid (∀ w, Calls Oajg.prog 84 #[.agg #[.int .u8 (E : Int), .int .u8 (M : Int)], .bool false] w fun e w' => e = .returned (.int .u64 (infN E M : Nat)) ∧ Below w.heap.size w w') := inf_ok E M h false
  have HO : Hid (∀ w, Calls Oajg.prog 134 #[.agg #[.int .u8 (E : Int), .int .u8 (M : Int)], .int .u8 (mo : Int), .bool neg] w fun e w' => e = .returned (.tuple #[.int .u64 (ovN E M mo neg : Nat), .int .u8 20]) ∧ Below w.heap.size w w') := overflowS_ok E M h mo neg
  have HZ : Hid (∀ w, Calls Oajg.prog 132 #[.agg #[.int .u8 (E : Int), .int .u8 (M : Int)], .bool neg] w fun e w' => e = .returned (.int .u64 (sgnd E M neg 0 : Nat)) ∧ Below w.heap.size w w') := zeroS_ok E M h neg
  have hinf := infN_lt E M
  have hp : 2 ^ (E + M) ≤ 9223372036854775808 := pow2_lt64 _ (by omega)
  have hDM : D * 2 ^ M ≤ 2 ^ (E + M) := by rw [Nat.pow_add]; exact Nat.mul_le_mul_right _ hDE
  have hDb : D ≤ 2 ^ 11 := Nat.le_trans hDE (Nat.pow_le_pow_right (by decide) hE11)
  obtain ⟨y, hy⟩ : ∃ y, y = D * 2 ^ M := ⟨_, rfl⟩
  obtain ⟨x, hx⟩ : ∃ x, x = D * 2 ^ M + N := ⟨_, rfl⟩
  have hxy : (y : Int) + (N : Int) = (x : Int) := by omega
  have hx64 : x < 18446744073709551616 := by omega
  have hy64 : y < 18446744073709551616 := by omega
  have ky : IntKind.u64.wrap ((D : Int) * 2 ^ M) = (y : Int) := by
    refine wrap64' ?_ hy64
    rw [hy]; push_cast; rfl
  have HOR : Hid (x < infN E M → bits .or .u64 (x : Int) ((sgnd E M neg 0 : Nat) : Int) = ((sgnd E M neg x : Nat) : Int)) := fun hlt => or_zero_ok h neg (by omega)
  have e1 : rpN E M mo neg exp sig = pkN E M mo neg D N SM true := by unfold rpN; rw [if_neg h0, hE', if_neg (by omega), eTiny, hK, HSS.out, ← hN, ← hD, ← hSMe]
  have e2 : rpF E M mo neg exp sig = pkF E M D N SM true := by unfold rpF; rw [if_neg h0, hE', if_neg (by omega), eTiny, hK, HSS.out, ← hN, ← hD, ← hSMe]
  have HRN : Hid (rpN E M mo neg exp sig = if infN E M ≤ x then ovN E M mo neg else sgnd E M neg x) := by show _ = _; rw [e1]; unfold pkN; rw [hx]
  have HRF : Hid (rpF E M mo neg exp sig = if infN E M ≤ x then 20 else if !SM then 0 else if true then 24 else 16) := by show _ = _; rw [e2]; unfold pkF; rw [hx]
  have hQb : Q < 18446744073709551615 := by omega
  have hNb : N < 18446744073709551616 := by omega
  have hD0 : D = 0 := by omega
  have hxN : x = N := by rw [hx, hD0]; omega
  clear e1 e2 hinf hp hDM hy hx hDE hD hK hN hTL hTQ hM53 eTiny hE' hQ hRS hRD hSMe hS1 HSS HRR hR h h0 hk hL hL1 hLD
  generalize rpN E M mo neg exp sig = RN at *
  generalize rpF E M mo neg exp sig = RF at *
  generalize infN E M = I at *
  generalize ovN E M mo neg = OV at *
  generalize sgnd E M neg 0 = Z0 at *
  generalize sgnd E M neg x = ZX at *
  generalize biasN E = Bi at *
  have jE : (R == 1 - (Bi : Int) - 1) = false := by simpa using hcase.2
  have hlt : R < 1 - (Bi : Int) := hcase.1
  clear hcase
  go_enter Oajg.func85, Oajg.ntmps85
  go_wp2_with fail
  refine Calls.mono (HC.out _) ?_
  rintro _ w1 ⟨rfl, hw⟩
  subst w1
  clear HC
  go_wp2_with fail
  refine Calls.mono (HB.out _) ?_
  rintro _ w2 ⟨rfl, hb⟩
  replace hF := sf_next hF hb
  clear hb
  go_wp2_with fail
  refine Calls.mono (HB.out _) ?_
  rintro _ w3 ⟨rfl, hb⟩
  replace hF := sf_next hF hb
  clear hb HB
  go_wp2_with fail
  refine Calls.mono (HCUT.out _) ?_
  rintro _ w6 ⟨rfl, hb⟩
  replace hF := sf_next hF hb
  clear hb HCUT
  go_wp2_with fail
  refine Calls.mono (HRA.out _) ?_
  rintro _ w7 ⟨rfl, hb⟩
  replace hF := sf_next hF hb
  clear hb HRA
  cases RD with
  | false =>
    have hNQ2 : N = Q := by rw [hNQ]; rfl
    clear hNQ
    subst hNQ2
    subst hxN
    go_wp2_with fail
    refine Calls.mono (HI.out _) ?_
    rintro _ w8 ⟨rfl, hb⟩
    replace hF := sf_next hF hb
    clear hb
    by_cases hov : I ≤ x
    · have hovI : (I : Int) ≤ (x : Int) := by omega
      have HRN2 : Hid (RN = OV) := by show _ = _; rw [HRN.out, if_pos hov]
      have HRF2 : Hid (RF = 20) := by show _ = _; rw [HRF.out, if_pos hov]
      clear hov HRN HRF
      go_wp2_with fail
      refine Calls.mono (HO.out _) ?_
      rintro _ w9 ⟨rfl, hb⟩
      replace hF := sf_next hF hb
      clear hb
      go_wp2_with fail
      go_ret2
      exact ⟨by rw [HRN2.out, HRF2.out]; rfl, hF.2.2.2⟩
    · have hor := HOR.out (by omega)
      have HRN2 : Hid (RN = ZX) := by show _ = _; rw [HRN.out, if_neg hov]
      have HRF2 : Hid (RF = if !SM then 0 else if true then 24 else 16) := by show _ = _; rw [HRF.out, if_neg hov]; try simp
      have hlt1 : (x : Int) < (I : Int) := by omega
      have hlt2 : x < I := by omega
      clear hov HRN HRF HOR
      cases hsm : SM with
      | false =>
        have jr : ((RS : Int) == 0) = true := by rw [kSM, hsm]; rfl
        have HRF3 : Hid (RF = 0) := by show _ = _; rw [HRF2.out, hsm]; rfl
        clear HRF2 hsm kSM
        go_wp2_with fail
        refine Calls.mono (HZ.out _) ?_
        rintro _ w9 ⟨rfl, hb⟩
        replace hF := sf_next hF hb
        clear hb
        go_wp2_with fail
        go_ret2
        exact ⟨by rw [HRN2.out, HRF3.out]; rfl, hF.2.2.2⟩
      | true =>
        have jr : ((RS : Int) == 0) = false := by rw [kSM, hsm]; rfl
        have HRF3 : Hid (RF = 24) := by show _ = _; rw [HRF2.out, hsm]; rfl
        clear HRF2 hsm kSM
        go_wp2_with fail
        refine Calls.mono (HZ.out _) ?_
        rintro _ w9 ⟨rfl, hb⟩
        replace hF := sf_next hF hb
        clear hb
        go_wp2_with fail
        go_ret2
        exact ⟨by rw [HRN2.out, HRF3.out]; rfl, hF.2.2.2⟩
  | true =>
    have hNQ2 : N = Q + 1 := by rw [hNQ]; rfl
    clear hNQ
    have kN : (Q : Int) + 1 = (N : Int) := by omega
    clear hNQ2
    subst hxN
    go_wp2_with fail
    refine Calls.mono (HI.out _) ?_
    rintro _ w8 ⟨rfl, hb⟩
    replace hF := sf_next hF hb
    clear hb
    by_cases hov : I ≤ x
    · have hovI : (I : Int) ≤ (x : Int) := by omega
      have HRN2 : Hid (RN = OV) := by show _ = _; rw [HRN.out, if_pos hov]
      have HRF2 : Hid (RF = 20) := by show _ = _; rw [HRF.out, if_pos hov]
      clear hov HRN HRF
      go_wp2_with fail
      refine Calls.mono (HO.out _) ?_
      rintro _ w9 ⟨rfl, hb⟩
      replace hF := sf_next hF hb
      clear hb
      go_wp2_with fail
      go_ret2
      exact ⟨by rw [HRN2.out, HRF2.out]; rfl, hF.2.2.2⟩
    · have hor := HOR.out (by omega)
      have HRN2 : Hid (RN = ZX) := by show _ = _; rw [HRN.out, if_neg hov]
      have HRF2 : Hid (RF = if !SM then 0 else if true then 24 else 16) := by show _ = _; rw [HRF.out, if_neg hov]; try simp
      have hlt1 : (x : Int) < (I : Int) := by omega
      have hlt2 : x < I := by omega
      clear hov HRN HRF HOR
      cases hsm : SM with
      | false =>
        have jr : ((RS : Int) == 0) = true := by rw [kSM, hsm]; rfl
        have HRF3 : Hid (RF = 0) := by show _ = _; rw [HRF2.out, hsm]; rfl
        clear HRF2 hsm kSM
        go_wp2_with fail
        refine Calls.mono (HZ.out _) ?_
        rintro _ w9 ⟨rfl, hb⟩
        replace hF := sf_next hF hb
        clear hb
        go_wp2_with fail
        go_ret2
        exact ⟨by rw [HRN2.out, HRF3.out]; rfl, hF.2.2.2⟩
      | true =>
        have jr : ((RS : Int) == 0) = false := by rw [kSM, hsm]; rfl
        have HRF3 : Hid (RF = 24) := by show _ = _; rw [HRF2.out, hsm]; rfl
        clear HRF2 hsm kSM
        go_wp2_with fail
        refine Calls.mono (HZ.out _) ?_
        rintro _ w9 ⟨rfl, hb⟩
        replace hF := sf_next hF hb
        clear hb
        go_wp2_with fail
        go_ret2
        exact ⟨by rw [HRN2.out, HRF3.out]; rfl, hF.2.2.2⟩

set_option maxRecDepth 100000 in
set_option maxHeartbeats 4000000 in
theorem roundPack_edge (E M : Nat) (h : FOk E M) (mo : Nat) (neg : Bool) (exp : Int) (sig : Nat) (hsig : sig < 18446744073709551616) (hx0 : -10000 ≤ exp) (hx1 : exp ≤ 10000) (w : World) (h0 : sig ≠ 0) (hcase : rpR exp sig = 1 - (biasN E : Int) - 1) :
    Calls Oajg.prog 85 #[.agg #[.int .u8 (E : Int), .int .u8 (M : Int)], .int .u8 (mo : Int), .bool neg, .int .i16 exp, .int .u64 (sig : Int)] w fun e w' => e = .returned (.tuple #[.int .u64 (rpN E M mo neg exp sig : Nat), .int .u8 (rpF E M mo neg exp sig : Nat)]) ∧ Below w.heap.size w w' := by
  have hF := sf_box w E M
  have HB : Hid (∀ w, Calls Oajg.prog 129 #[.agg #[.int .u8 (E : Int), .int .u8 (M : Int)]] w fun e w' => e = .returned (.int .i16 (biasN E : Nat)) ∧ Below w.heap.size w w') := bias_ok E M h
  have HC : Hid (∀ w, Calls Oajg.prog 133 #[.int .u64 (sig : Int)] w fun e w' => e = .returned (.int .u8 ((64 - bitLen sig : Nat) : Int)) ∧ w' = w) := clz_ok sig hsig h0
  have hbi := biasN_le h.e11
  have hbi1 := biasN_pos h.e2
  have hM52 := h.m52
  have hM2 := h.m2
  have hE11 := h.e11
  obtain ⟨hS1, hS2⟩ := rpS_range hsig h0
  have hL : bitLen sig ≤ 64 := bitLen_le_of_lt (n := 64) hsig
  have hL1 := bitLen_pos h0
  obtain ⟨LD, hLD⟩ : ∃ LD, LD = 64 - bitLen sig := ⟨_, rfl⟩
  obtain ⟨S, HSS⟩ : ∃ S, Hid (rpS sig = S) := ⟨_, rfl⟩
  have kS : IntKind.u64.wrap ((sig : Int) * 2 ^ LD) = (S : Int) := by
    refine wrap64' ?_ (by rw [← HSS.out]; exact hS2)
    rw [← HSS.out, hLD]; unfold rpS; push_cast; rfl
  rw [HSS.out] at hS1 hS2
  obtain ⟨R, HRR⟩ : ∃ R, Hid (rpR exp sig = R) := ⟨_, rfl⟩
  have hR := HRR.out
  have kR : exp - (LD : Int) + 63 = R := by rw [← hR, hLD]; unfold rpR; omega
  have hRb : -10001 ≤ R ∧ R ≤ 10063 := by rw [← hR]; unfold rpR; omega
  obtain ⟨hRb1, hRb2⟩ := hRb
  rw [hR] at hcase
  rw [← hLD] at HC
  have hLDb : LD ≤ 63 := by omega
  have j0 : ((sig : Int) == 0) = false := by simp; omega
  have hE' : rpE E exp sig = 1 - (biasN E : Int) := by unfold rpE; rw [hR]; omega
  obtain ⟨k, hk⟩ : ∃ k : Nat, k = (63 - (M : Int) + (1 - (biasN E : Int)) - R).toNat := ⟨_, rfl⟩
  have kk : 63 - (M : Int) + (1 - (biasN E : Int)) - R = (k : Int) := by omega
  have hK : rpK E M exp sig = k := by unfold rpK; rw [hE', hR, hk]
  have hk1 : 1 ≤ k := by omega
  have hk2 : k ≤ 20000 := by omega
  have hkM : 63 - M ≤ k := by omega
  obtain ⟨D, hD⟩ : ∃ D : Nat, D = (1 - (biasN E : Int) - (1 - (biasN E : Int))).toNat := ⟨_, rfl⟩
  have kD : (1 - (biasN E : Int)) - (1 - (biasN E : Int)) = (D : Int) := by omega
  have hDE : D ≤ 2 ^ E := by
    have e1 : 2 ^ E = 2 * 2 ^ (E - 1) := by
      have := h.e2
      rw [← Nat.pow_succ']; congr 1; omega
    have e2 : biasN E = 2 ^ (E - 1) - 1 := rfl
    have := pp (E - 1)
    omega
  obtain ⟨hTQ, hTL⟩ := rp_top (mo := mo) (neg := neg) hS2 hM52 hkM
  have hM53 : 2 ^ (M + 1) ≤ 2 ^ 53 := Nat.pow_le_pow_right (by decide) (by omega)
  obtain ⟨Q, hQ⟩ : ∃ Q, Q = S / 2 ^ k := ⟨_, rfl⟩
  obtain ⟨RS, hRS⟩ : ∃ RS, RS = cutR S k := ⟨_, rfl⟩
  obtain ⟨SM, hSMe⟩ : ∃ SM, SM = smX S (2 ^ k) := ⟨_, rfl⟩
  have hRS64 : RS < 18446744073709551616 := by rw [hRS]; exact cutR_lt _ _
  have kSM : ((RS : Int) == 0) = !SM := by
    rw [hSMe, ← cut_some hS2 hk1, ← hRS]
    unfold smS
    by_cases h : RS = 0
    · subst h; rfl
    · rw [beq_eq_false_iff_ne.2 h]; simp; omega
  have HCUT : Hid (∀ w, Calls Oajg.prog 135 #[.int .u64 (S : Int), .int .i16 (k : Int)] w fun e w' => e = .returned (.tuple #[.int .u64 (Q : Int), .int .u64 (RS : Int)]) ∧ Below w.heap.size w w') := fun w => by
    have := cut_ok S k hS2 hk1 hk2 w
    rw [← hQ, ← hRS] at this
    exact this
  obtain ⟨RD, hRD⟩ : ∃ RD, RD = rdX mo neg (Q % 2 == 1) (hfX S (2 ^ k)) (smX S (2 ^ k)) := ⟨_, rfl⟩
  have HRA : Hid (∀ w, Calls Oajg.prog 136 #[.int .u8 (mo : Int), .bool neg, .int .u64 (Q : Int), .int .u64 (RS : Int)] w fun e w' => e = .returned (.bool RD) ∧ Below w.heap.size w w') := fun w => by
    have := raisesS_ok mo neg Q RS (by omega) hRS64 w
    rw [hRS, cut_half hS2 hk1, cut_some hS2 hk1, ← hRD, ← hRS] at this
    exact this
  obtain ⟨N, hN⟩ : ∃ N, N = rzN mo neg S (2 ^ k) := ⟨_, rfl⟩
  have hNQ : N = Q + (if RD then 1 else 0) := by rw [hN, hRD, hQ]; rfl
  rw [← hN] at hTL
  obtain ⟨dr, hdr⟩ : ∃ dr, dr = 63 - M := ⟨_, rfl⟩
  have kdr : 63 - (M : Int) = (dr : Int) := by omega
  have kk2 : (dr : Int) + (1 - (biasN E : Int)) - R = (k : Int) := by omega
  have hdr1 : 1 ≤ dr := by omega
  obtain ⟨Q2, hQ2⟩ : ∃ Q2, Q2 = S / 2 ^ dr := ⟨_, rfl⟩
  obtain ⟨RS2, hRS2⟩ : ∃ RS2, RS2 = cutR S dr := ⟨_, rfl⟩
  have hRS264 : RS2 < 18446744073709551616 := by rw [hRS2]; exact cutR_lt _ _
  have hQ264 : Q2 < 18446744073709551616 := by rw [hQ2]; have := Nat.div_le_self S (2 ^ dr); omega
  have HCUT2 : Hid (∀ w, Calls Oajg.prog 135 #[.int .u64 (S : Int), .int .i16 (dr : Int)] w fun e w' => e = .returned (.tuple #[.int .u64 (Q2 : Int), .int .u64 (RS2 : Int)]) ∧ Below w.heap.size w w') := fun w => by
    have := cut_ok S dr hS2 hdr1 (by omega) w
    rw [← hQ2, ← hRS2] at this
    exact this
  obtain ⟨RD2, hRD2⟩ : ∃ RD2, RD2 = rdP mo neg S (2 ^ dr) := ⟨_, rfl⟩
  have HRA2 : Hid (∀ w, Calls Oajg.prog 136 #[.int .u8 (mo : Int), .bool neg, .int .u64 (Q2 : Int), .int .u64 (RS2 : Int)] w fun e w' => e = .returned (.bool RD2) ∧ Below w.heap.size w w') := fun w => by
    have := raisesS_ok mo neg Q2 RS2 hQ264 hRS264 w
    rw [hRS2, cut_half hS2 hdr1, cut_some hS2 hdr1, ← hRS2, hQ2] at this
    unfold rdP at hRD2
    rw [← hRD2, ← hQ2] at this
    exact this
  obtain ⟨P1, hP1⟩ : ∃ P1, P1 = 2 ^ (M + 1) - 1 := ⟨_, rfl⟩
  obtain ⟨TV, hTV⟩ : ∃ TV, TV = (!RD2 || (Q2 != P1)) := ⟨_, rfl⟩
  have eTiny : rpTiny E M mo neg exp sig = TV := by unfold rpTiny; rw [hR, if_pos hcase, HSS.out, ← hdr, ← hRD2, ← hQ2, ← hP1, hTV]
  obtain ⟨m1, hm1⟩ : ∃ m1, m1 = M + 1 := ⟨_, rfl⟩
  have km1 : (M : Int) + 1 = (m1 : Int) := by omega
  have hm153 : m1 ≤ 53 := by omega
  have kP : IntKind.u64.wrap (2 ^ m1) = ((2 ^ m1 : Nat) : Int) := wpow (by omega)
  have kP1 : ((2 ^ m1 : Nat) : Int) - 1 = (P1 : Int) := by rw [hP1, hm1]; have := pp (M + 1); omega
  have kQP : ((Q2 : Int) != (P1 : Int)) = (Q2 != P1) := by
    by_cases hh : Q2 = P1
    · rw [hh, bne_self_eq_false, bne_self_eq_false]
    · have h3 : ¬ ((Q2 : Int) = (P1 : Int)) := by omega
      rw [bne_iff_ne.2 h3, bne_iff_ne.2 hh]
  have kW1 : IntKind.u64.wrap ((2 : Int) ^ m1 - 1) = (P1 : Int) := by
    have h2 : ((2 ^ m1 : Nat) : Int) = (2 : Int) ^ m1 := by push_cast; rfl
    rw [← h2, kP1]
    refine wrap64 ?_
    have : 2 ^ m1 ≤ 2 ^ 53 := Nat.pow_le_pow_right (by decide) hm153
    omega
  have kW2 : IntKind.u64.wrap (IntKind.u64.wrap ((2 : Int) ^ m1) - 1) = (P1 : Int) := by
    have h2 : ((2 ^ m1 : Nat) : Int) = (2 : Int) ^ m1 := by push_cast; rfl
    rw [kP, h2]; exact kW1
  rw [← kW2] at kQP
  have hP53 : 2 ^ m1 ≤ 2 ^ 53 := Nat.pow_le_pow_right (by decide) hm153
  have HI : Hid (∀ w, Calls Oajg.prog 84 #[.agg #[.int .u8 (E : Int), .int .u8 (M : Int)], .bool false] w fun e w' => e = .returned (.int .u64 (infN E M : Nat)) ∧ Below w.heap.size w w') := inf_ok E M h false
  have HO : Hid (∀ w, Calls Oajg.prog 134 #[.agg #[.int .u8 (E : Int), .int .u8 (M : Int)], .int .u8 (mo : Int), .bool neg] w fun e w' => e = .returned (.tuple #[.int .u64 (ovN E M mo neg : Nat), .int .u8 20]) ∧ Below w.heap.size w w') := overflowS_ok E M h mo neg
  have HZ : Hid (∀ w, Calls Oajg.prog 132 #[.agg #[.int .u8 (E : Int), .int .u8 (M : Int)], .bool neg] w fun e w' => e = .returned (.int .u64 (sgnd E M neg 0 : Nat)) ∧ Below w.heap.size w w') := zeroS_ok E M h neg
  have hinf := infN_lt E M
  have hp : 2 ^ (E + M) ≤ 9223372036854775808 := pow2_lt64 _ (by omega)
  have hDM : D * 2 ^ M ≤ 2 ^ (E + M) := by rw [Nat.pow_add]; exact Nat.mul_le_mul_right _ hDE
  have hDb : D ≤ 2 ^ 11 := Nat.le_trans hDE (Nat.pow_le_pow_right (by decide) hE11)
  obtain ⟨y, hy⟩ : ∃ y, y = D * 2 ^ M := ⟨_, rfl⟩
  obtain ⟨x, hx⟩ : ∃ x, x = D * 2 ^ M + N := ⟨_, rfl⟩
  have hxy : (y : Int) + (N : Int) = (x : Int) := by omega
  have hx64 : x < 18446744073709551616 := by omega
  have hy64 : y < 18446744073709551616 := by omega
  have ky : IntKind.u64.wrap ((D : Int) * 2 ^ M) = (y : Int) := by
    refine wrap64' ?_ hy64
    rw [hy]; push_cast; rfl
  have HOR : Hid (x < infN E M → bits .or .u64 (x : Int) ((sgnd E M neg 0 : Nat) : Int) = ((sgnd E M neg x : Nat) : Int)) := fun hlt => or_zero_ok h neg (by omega)
  have e1 : rpN E M mo neg exp sig = pkN E M mo neg D N SM TV := by unfold rpN; rw [if_neg h0, hE', if_neg (by omega), eTiny, hK, HSS.out, ← hN, ← hD, ← hSMe]
  have e2 : rpF E M mo neg exp sig = pkF E M D N SM TV := by unfold rpF; rw [if_neg h0, hE', if_neg (by omega), eTiny, hK, HSS.out, ← hN, ← hD, ← hSMe]
  have HRN : Hid (rpN E M mo neg exp sig = if infN E M ≤ x then ovN E M mo neg else sgnd E M neg x) := by show _ = _; rw [e1]; unfold pkN; rw [hx]
  have HRF : Hid (rpF E M mo neg exp sig = if infN E M ≤ x then 20 else if !SM then 0 else if TV then 24 else 16) := by show _ = _; rw [e2]; unfold pkF; rw [hx]
  have hQb : Q < 18446744073709551615 := by omega
  have hNb : N < 18446744073709551616 := by omega
  have hD0 : D = 0 := by omega
  have hxN : x = N := by rw [hx, hD0]; omega
  clear e1 e2 hinf hp hDM hy hx hDE hD hK hN hTL hTQ hM53 eTiny hE' hQ hRS hRD hSMe hS1 HSS HRR hR h h0 hk hL hL1 hLD
  generalize rpN E M mo neg exp sig = RN at *
  generalize rpF E M mo neg exp sig = RF at *
  generalize infN E M = I at *
  generalize ovN E M mo neg = OV at *
  generalize sgnd E M neg 0 = Z0 at *
  generalize sgnd E M neg x = ZX at *
  clear hdr hQ2 hRS2 hRD2 hP1 hm1 kW1 kW2 kP1 kP hP53
  generalize (Q2 != P1) = QP at *
  generalize biasN E = Bi at *
  have jE : (R == 1 - (Bi : Int) - 1) = true := by simp [hcase]
  have hlt : R < 1 - (Bi : Int) := by omega
  have jL : decide (R < 1 - (Bi : Int)) = true := by rw [decide_eq_true_eq]; omega
  clear hcase
  go_enter Oajg.func85, Oajg.ntmps85
  go_wp2_with fail
  refine Calls.mono (HC.out _) ?_
  rintro _ w1 ⟨rfl, hw⟩
  subst w1
  clear HC
  go_wp2_with fail
  refine Calls.mono (HB.out _) ?_
  rintro _ w2 ⟨rfl, hb⟩
  replace hF := sf_next hF hb
  clear hb
  go_wp2_with fail
  refine Calls.mono (HB.out _) ?_
  rintro _ w3 ⟨rfl, hb⟩
  replace hF := sf_next hF hb
  clear hb HB
  go_wp2_with fail
  refine Calls.mono (HCUT2.out _) ?_
  rintro _ w4 ⟨rfl, hb⟩
  replace hF := sf_next hF hb
  clear hb HCUT2
  go_wp2_with fail
  refine Calls.mono (HRA2.out _) ?_
  rintro _ w5 ⟨rfl, hb⟩
  replace hF := sf_next hF hb
  clear hb HRA2
  cases RD2 with
  | false =>
    have hTV2 : TV = true := by rw [hTV]; rfl
    clear hTV
    subst hTV2
    go_wp2_with fail
    refine Calls.mono (HCUT.out _) ?_
    rintro _ w6 ⟨rfl, hb⟩
    replace hF := sf_next hF hb
    clear hb HCUT
    go_wp2_with fail
    refine Calls.mono (HRA.out _) ?_
    rintro _ w7 ⟨rfl, hb⟩
    replace hF := sf_next hF hb
    clear hb HRA
    cases RD with
    | false =>
      have hNQ2 : N = Q := by rw [hNQ]; rfl
      clear hNQ
      subst hNQ2
      subst hxN
      go_wp2_with fail
      refine Calls.mono (HI.out _) ?_
      rintro _ w8 ⟨rfl, hb⟩
      replace hF := sf_next hF hb
      clear hb
      by_cases hov : I ≤ x
      · have hovI : (I : Int) ≤ (x : Int) := by omega
        have HRN2 : Hid (RN = OV) := by show _ = _; rw [HRN.out, if_pos hov]
        have HRF2 : Hid (RF = 20) := by show _ = _; rw [HRF.out, if_pos hov]
        clear hov HRN HRF
        go_wp2_with fail
        refine Calls.mono (HO.out _) ?_
        rintro _ w9 ⟨rfl, hb⟩
        replace hF := sf_next hF hb
        clear hb
        go_wp2_with fail
        go_ret2
        exact ⟨by rw [HRN2.out, HRF2.out]; rfl, hF.2.2.2⟩
      · have hor := HOR.out (by omega)
        have HRN2 : Hid (RN = ZX) := by show _ = _; rw [HRN.out, if_neg hov]
        have HRF2 : Hid (RF = if !SM then 0 else if true then 24 else 16) := by show _ = _; rw [HRF.out, if_neg hov]; try simp
        have hlt1 : (x : Int) < (I : Int) := by omega
        have hlt2 : x < I := by omega
        clear hov HRN HRF HOR
        cases hsm : SM with
        | false =>
          have jr : ((RS : Int) == 0) = true := by rw [kSM, hsm]; rfl
          have HRF3 : Hid (RF = 0) := by show _ = _; rw [HRF2.out, hsm]; rfl
          clear HRF2 hsm kSM
          go_wp2_with fail
          refine Calls.mono (HZ.out _) ?_
          rintro _ w9 ⟨rfl, hb⟩
          replace hF := sf_next hF hb
          clear hb
          go_wp2_with fail
          go_ret2
          exact ⟨by rw [HRN2.out, HRF3.out]; rfl, hF.2.2.2⟩
        | true =>
          have jr : ((RS : Int) == 0) = false := by rw [kSM, hsm]; rfl
          have HRF3 : Hid (RF = 24) := by show _ = _; rw [HRF2.out, hsm]; rfl
          clear HRF2 hsm kSM
          go_wp2_with fail
          refine Calls.mono (HZ.out _) ?_
          rintro _ w9 ⟨rfl, hb⟩
          replace hF := sf_next hF hb
          clear hb
          go_wp2_with fail
          go_ret2
          exact ⟨by rw [HRN2.out, HRF3.out]; rfl, hF.2.2.2⟩
    | true =>
      have hNQ2 : N = Q + 1 := by rw [hNQ]; rfl
      clear hNQ
      have kN : (Q : Int) + 1 = (N : Int) := by omega
      clear hNQ2
      subst hxN
      go_wp2_with fail
      refine Calls.mono (HI.out _) ?_
      rintro _ w8 ⟨rfl, hb⟩
      replace hF := sf_next hF hb
      clear hb
      by_cases hov : I ≤ x
      · have hovI : (I : Int) ≤ (x : Int) := by omega
        have HRN2 : Hid (RN = OV) := by show _ = _; rw [HRN.out, if_pos hov]
        have HRF2 : Hid (RF = 20) := by show _ = _; rw [HRF.out, if_pos hov]
        clear hov HRN HRF
        go_wp2_with fail
        refine Calls.mono (HO.out _) ?_
        rintro _ w9 ⟨rfl, hb⟩
        replace hF := sf_next hF hb
        clear hb
        go_wp2_with fail
        go_ret2
        exact ⟨by rw [HRN2.out, HRF2.out]; rfl, hF.2.2.2⟩
      · have hor := HOR.out (by omega)
        have HRN2 : Hid (RN = ZX) := by show _ = _; rw [HRN.out, if_neg hov]
        have HRF2 : Hid (RF = if !SM then 0 else if true then 24 else 16) := by show _ = _; rw [HRF.out, if_neg hov]; try simp
        have hlt1 : (x : Int) < (I : Int) := by omega
        have hlt2 : x < I := by omega
        clear hov HRN HRF HOR
        cases hsm : SM with
        | false =>
          have jr : ((RS : Int) == 0) = true := by rw [kSM, hsm]; rfl
          have HRF3 : Hid (RF = 0) := by show _ = _; rw [HRF2.out, hsm]; rfl
          clear HRF2 hsm kSM
          go_wp2_with fail
          refine Calls.mono (HZ.out _) ?_
          rintro _ w9 ⟨rfl, hb⟩
          replace hF := sf_next hF hb
          clear hb
          go_wp2_with fail
          go_ret2
          exact ⟨by rw [HRN2.out, HRF3.out]; rfl, hF.2.2.2⟩
        | true =>
          have jr : ((RS : Int) == 0) = false := by rw [kSM, hsm]; rfl
          have HRF3 : Hid (RF = 24) := by show _ = _; rw [HRF2.out, hsm]; rfl
          clear HRF2 hsm kSM
          go_wp2_with fail
          refine Calls.mono (HZ.out _) ?_
          rintro _ w9 ⟨rfl, hb⟩
          replace hF := sf_next hF hb
          clear hb
          go_wp2_with fail
          go_ret2
          exact ⟨by rw [HRN2.out, HRF3.out]; rfl, hF.2.2.2⟩
  | true =>
    have hTV2 : TV = QP := by rw [hTV]; rfl
    clear hTV
    subst hTV2
    go_wp2_with fail
    refine Calls.mono (HCUT.out _) ?_
    rintro _ w6 ⟨rfl, hb⟩
    replace hF := sf_next hF hb
    clear hb HCUT
    go_wp2_with fail
    refine Calls.mono (HRA.out _) ?_
    rintro _ w7 ⟨rfl, hb⟩
    replace hF := sf_next hF hb
    clear hb HRA
    cases RD with
    | false =>
      have hNQ2 : N = Q := by rw [hNQ]; rfl
      clear hNQ
      subst hNQ2
      subst hxN
      go_wp2_with fail
      refine Calls.mono (HI.out _) ?_
      rintro _ w8 ⟨rfl, hb⟩
      replace hF := sf_next hF hb
      clear hb
      by_cases hov : I ≤ x
      · have hovI : (I : Int) ≤ (x : Int) := by omega
        have HRN2 : Hid (RN = OV) := by show _ = _; rw [HRN.out, if_pos hov]
        have HRF2 : Hid (RF = 20) := by show _ = _; rw [HRF.out, if_pos hov]
        clear hov HRN HRF
        go_wp2_with fail
        refine Calls.mono (HO.out _) ?_
        rintro _ w9 ⟨rfl, hb⟩
        replace hF := sf_next hF hb
        clear hb
        go_wp2_with fail
        go_ret2
        exact ⟨by rw [HRN2.out, HRF2.out]; rfl, hF.2.2.2⟩
      · have hor := HOR.out (by omega)
        have HRN2 : Hid (RN = ZX) := by show _ = _; rw [HRN.out, if_neg hov]
        have HRF2 : Hid (RF = if !SM then 0 else if TV then 24 else 16) := by show _ = _; rw [HRF.out, if_neg hov]; try simp
        have hlt1 : (x : Int) < (I : Int) := by omega
        have hlt2 : x < I := by omega
        clear hov HRN HRF HOR
        cases hsm : SM with
        | false =>
          have jr : ((RS : Int) == 0) = true := by rw [kSM, hsm]; rfl
          have HRF3 : Hid (RF = 0) := by show _ = _; rw [HRF2.out, hsm]; rfl
          clear HRF2 hsm kSM
          go_wp2_with fail
          refine Calls.mono (HZ.out _) ?_
          rintro _ w9 ⟨rfl, hb⟩
          replace hF := sf_next hF hb
          clear hb
          go_wp2_with fail
          go_ret2
          exact ⟨by rw [HRN2.out, HRF3.out]; rfl, hF.2.2.2⟩
        | true =>
          have jr : ((RS : Int) == 0) = false := by rw [kSM, hsm]; rfl
          cases TV with
          | false =>
            have HRF3 : Hid (RF = 16) := by show _ = _; rw [HRF2.out, hsm]; rfl
            clear HRF2 hsm kSM
            go_wp2_with fail
            refine Calls.mono (HZ.out _) ?_
            rintro _ w9 ⟨rfl, hb⟩
            replace hF := sf_next hF hb
            clear hb
            go_wp2_with fail
            go_ret2
            exact ⟨by rw [HRN2.out, HRF3.out]; rfl, hF.2.2.2⟩
          | true =>
            have HRF3 : Hid (RF = 24) := by show _ = _; rw [HRF2.out, hsm]; rfl
            clear HRF2 hsm kSM
            go_wp2_with fail
            refine Calls.mono (HZ.out _) ?_
            rintro _ w9 ⟨rfl, hb⟩
            replace hF := sf_next hF hb
            clear hb
            go_wp2_with fail
            go_ret2
            exact ⟨by rw [HRN2.out, HRF3.out]; rfl, hF.2.2.2⟩
    | true =>
      have hNQ2 : N = Q + 1 := by rw [hNQ]; rfl
      clear hNQ
      have kN : (Q : Int) + 1 = (N : Int) := by omega
      clear hNQ2
      subst hxN
      go_wp2_with fail
      refine Calls.mono (HI.out _) ?_
      rintro _ w8 ⟨rfl, hb⟩
      replace hF := sf_next hF hb
      clear hb
      by_cases hov : I ≤ x
      · have hovI : (I : Int) ≤ (x : Int) := by omega
        have HRN2 : Hid (RN = OV) := by show _ = _; rw [HRN.out, if_pos hov]
        have HRF2 : Hid (RF = 20) := by show _ = _; rw [HRF.out, if_pos hov]
        clear hov HRN HRF
        go_wp2_with fail
        refine Calls.mono (HO.out _) ?_
        rintro _ w9 ⟨rfl, hb⟩
        replace hF := sf_next hF hb
        clear hb
        go_wp2_with fail
        go_ret2
        exact ⟨by rw [HRN2.out, HRF2.out]; rfl, hF.2.2.2⟩
      · have hor := HOR.out (by omega)
        have HRN2 : Hid (RN = ZX) := by show _ = _; rw [HRN.out, if_neg hov]
        have HRF2 : Hid (RF = if !SM then 0 else if TV then 24 else 16) := by show _ = _; rw [HRF.out, if_neg hov]; try simp
        have hlt1 : (x : Int) < (I : Int) := by omega
        have hlt2 : x < I := by omega
        clear hov HRN HRF HOR
        cases hsm : SM with
        | false =>
          have jr : ((RS : Int) == 0) = true := by rw [kSM, hsm]; rfl
          have HRF3 : Hid (RF = 0) := by show _ = _; rw [HRF2.out, hsm]; rfl
          clear HRF2 hsm kSM
          go_wp2_with fail
          refine Calls.mono (HZ.out _) ?_
          rintro _ w9 ⟨rfl, hb⟩
          replace hF := sf_next hF hb
          clear hb
          go_wp2_with fail
          go_ret2
          exact ⟨by rw [HRN2.out, HRF3.out]; rfl, hF.2.2.2⟩
        | true =>
          have jr : ((RS : Int) == 0) = false := by rw [kSM, hsm]; rfl
          cases TV with
          | false =>
            have HRF3 : Hid (RF = 16) := by show _ = _; rw [HRF2.out, hsm]; rfl
            clear HRF2 hsm kSM
            go_wp2_with fail
            refine Calls.mono (HZ.out _) ?_
            rintro _ w9 ⟨rfl, hb⟩
            replace hF := sf_next hF hb
            clear hb
            go_wp2_with fail
            go_ret2
            exact ⟨by rw [HRN2.out, HRF3.out]; rfl, hF.2.2.2⟩
          | true =>
            have HRF3 : Hid (RF = 24) := by show _ = _; rw [HRF2.out, hsm]; rfl
            clear HRF2 hsm kSM
            go_wp2_with fail
            refine Calls.mono (HZ.out _) ?_
            rintro _ w9 ⟨rfl, hb⟩
            replace hF := sf_next hF hb
            clear hb
            go_wp2_with fail
            go_ret2
            exact ⟨by rw [HRN2.out, HRF3.out]; rfl, hF.2.2.2⟩

/-- soft.roundPack -/
theorem roundPack_ok (E M : Nat) (h : FOk E M) (mo : Nat) (neg : Bool) (exp : Int) (sig : Nat) (hsig : sig < 18446744073709551616) (hx0 : -10000 ≤ exp) (hx1 : exp ≤ 10000) (w : World) :
    Calls Oajg.prog 85 #[.agg #[.int .u8 (E : Int), .int .u8 (M : Int)], .int .u8 (mo : Int), .bool neg, .int .i16 exp, .int .u64 (sig : Int)] w fun e w' => e = .returned (.tuple #[.int .u64 (rpN E M mo neg exp sig : Nat), .int .u8 (rpF E M mo neg exp sig : Nat)]) ∧ Below w.heap.size w w' := by
  by_cases h0 : sig = 0
  · exact roundPack_zero E M h mo neg exp sig hsig hx0 hx1 w h0
  by_cases hov : (biasN E : Int) < rpR exp sig
  · exact roundPack_over E M h mo neg exp sig hsig hx0 hx1 w h0 hov
  by_cases hge : 1 - (biasN E : Int) ≤ rpR exp sig
  · exact roundPack_norm E M h mo neg exp sig hsig hx0 hx1 w h0 ⟨hge, by omega⟩
  by_cases heq : rpR exp sig = 1 - (biasN E : Int) - 1
  · exact roundPack_edge E M h mo neg exp sig hsig hx0 hx1 w h0 heq
  · exact roundPack_tiny E M h mo neg exp sig hsig hx0 hx1 w h0 ⟨by omega, heq⟩

end Go.Proofs.Ygcoaj
