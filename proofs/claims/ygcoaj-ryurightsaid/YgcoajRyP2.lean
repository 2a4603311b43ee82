/-
  PLAIN: ryu's scaling by a table entry is exact.
-/
import Derived.Test.YgcoajRyP1
import Derived.Test.YgcoajNsP
set_option linter.unusedVariables false
set_option linter.unusedSimpArgs false
namespace Go.Proofs.Ygcoaj
open Go.RowKit

theorem bl2_eq {x : Nat} (h : x ≠ 0) : bl2 x = bitLen x := (log2_bits h).symm
theorem p5_ne (k : Nat) : 5 ^ k ≠ 0 := Nat.ne_of_gt (Nat.pow_pos (by decide))

/-- a table entry: 10^q to 128 bits -/
def tnM (q : Int) : Nat :=
  if q < 0 then 2 ^ (127 + bitLen (5 ^ (-q).toNat)) / 5 ^ (-q).toNat
  else if bitLen (5 ^ q.toNat) < 128 then 5 ^ q.toNat * 2 ^ (128 - bitLen (5 ^ q.toNat)) else 5 ^ q.toNat / 2 ^ (bitLen (5 ^ q.toNat) - 128)
def tnE (q : Int) : Int :=
  if q < 0 then q - ((127 + bitLen (5 ^ (-q).toNat) : Nat) : Int) else (bitLen (5 ^ q.toNat) : Int) - 128 + q

/-- what is scaled: m * 2^e / 10^q -/
def trN (e q : Int) (m : Nat) : Nat := m * 2 ^ e.toNat * 10 ^ (-q).toNat
def trD (e q : Int) : Nat := 2 ^ (-e).toNat * 10 ^ q.toNat
theorem trD_pos (e q : Int) : 0 < trD e q := Nat.mul_pos (pp _) (Nat.pow_pos (by decide))
def scT (q : Int) : Nat := tnM (-q) + (if 0 < q then 1 else 0)
def scS (e q : Int) : Int := -(e + tnE (-q))

theorem div_same {a b f rem d : Nat} (hd : 0 < d) (hb : 0 < b) (h : a * d = f * (b * d) + rem) (hr : rem < b * d) : a / b = f := by
  have e1 : a * d / (b * d) = a / b := Nat.mul_div_mul_right _ _ hd
  rw [← e1, h, Nat.add_comm, Nat.add_mul_div_right _ _ (Nat.mul_pos hb hd), Nat.div_eq_of_lt hr, Nat.zero_add]
theorem ten_pow (k : Nat) : 10 ^ k = 5 ^ k * 2 ^ k := by rw [← Nat.mul_pow]

theorem hi_ok {e : Int} {Q p p2 : Nat} (hQ : 0 < Q) (hc : chkHi e Q p p2 = true) : 121 ≤ scS e Q ∧ scS e Q ≤ 124 ∧ ∀ m, 0 < m → m < 36028797018963968 → m * scT Q / 2 ^ (scS e Q).toNat = trN e Q m / trD e Q := by
  unfold chkHi at hc
  simp only [Bool.and_eq_true, Nat.ble_eq, Nat.beq_eq] at hc
  obtain ⟨⟨⟨⟨⟨⟨h1, h2⟩, h3⟩, h4⟩, h5⟩, h6⟩, h7⟩ := hc
  obtain ⟨B, hB⟩ : ∃ B, B = 5 ^ Q := ⟨_, rfl⟩
  have hBp : 0 < B := by rw [hB]; exact Nat.pow_pos (by decide)
  rw [bl2_eq (p5_ne Q), ← hB] at h2 h3 h4 h7
  rw [← hB] at h5
  obtain ⟨k, hk⟩ : ∃ k, k = 127 + bitLen B := ⟨_, rfl⟩
  rw [← hk] at h2 h3 h4 h7
  have hS : scS e Q = (k : Int) + Q - e := by
    unfold scS tnE
    rw [if_pos (by omega), show (- -(Q : Int)).toNat = Q by omega, ← hB, ← hk]
    omega
  have hT : scT Q = 2 ^ k / B + 1 := by
    unfold scT tnM
    rw [if_pos (by omega), if_pos (by omega), show (- -(Q : Int)).toNat = Q by omega, ← hB, ← hk]
  obtain ⟨s, hs⟩ : ∃ s, s = ((k : Int) + Q - e).toNat := ⟨_, rfl⟩
  rw [← hs] at h2 h3 h4 h7
  have hsI : (s : Int) = (k : Int) + Q - e := by omega
  refine ⟨by rw [hS]; omega, by rw [hS]; omega, ?_⟩
  intro m hm0 hm
  rw [hS, ← hs, hT]
  obtain ⟨T, hTe⟩ : ∃ T, T = 2 ^ k / B + 1 := ⟨_, rfl⟩
  rw [← hTe] at h7 ⊢
  obtain ⟨A, hA⟩ : ∃ A, A = 2 ^ (e - Q).toNat := ⟨_, rfl⟩
  rw [← hA] at h5 h7
  have hA2 : A * 2 ^ s = 2 ^ k := by rw [hA, ← Nat.pow_add]; congr 1; omega
  -- the ratio
  have htr : trN e Q m / trD e Q = m * A / B := by
    unfold trN trD
    rw [show (-(Q : Int)).toNat = 0 by omega, show (-e).toNat = 0 by omega, Nat.pow_zero, Nat.mul_one, Nat.one_mul, Int.toNat_natCast, ten_pow, ← hB]
    have : m * 2 ^ e.toNat = m * A * 2 ^ Q := by rw [hA, Nat.mul_assoc, ← Nat.pow_add]; congr 2; omega
    rw [this, Nat.mul_div_mul_right _ _ (pp Q)]
  rw [htr]
  have hz : p2 * A % B < B := Nat.mod_lt _ hBp
  have hN : Near A B p (p * A % B) p2 (B - p2 * A % B) := by
    refine ⟨⟨p * A / B, by rw [Nat.mul_comm (p * A / B)]; exact (Nat.div_add_mod _ _).symm⟩, ⟨p2 * A / B + 1, ?_⟩, h5, by omega⟩
    have := Nat.div_add_mod (p2 * A) B
    rw [Nat.add_mul, Nat.one_mul, Nat.mul_comm (p2 * A / B)]
    omega
  obtain ⟨_, hlow⟩ := near_least hN hm0 (Nat.lt_of_lt_of_le hm h6)
  have hTB : 2 ^ k ≤ T * B := by
    have h8 := Nat.div_add_mod (2 ^ k) B
    have h9 := Nat.mod_lt (2 ^ k) hBp
    rw [hTe, Nat.add_mul, Nat.one_mul, Nat.mul_comm (2 ^ k / B)]
    omega
  obtain ⟨d, hd⟩ : ∃ d, d = T * B - 2 ^ k := ⟨_, rfl⟩
  rw [← hd] at h7
  have hTd : T * B = 2 ^ k + d := by omega
  obtain ⟨rem, hrem⟩ : ∃ rem, rem = m * A % B := ⟨_, rfl⟩
  have hrB : rem < B := by rw [hrem]; exact Nat.mod_lt _ hBp
  rw [← hrem] at hlow
  have hmA : m * A = m * A / B * B + rem := by rw [hrem, Nat.mul_comm (m * A / B)]; exact (Nat.div_add_mod _ _).symm
  refine div_same (d := B) (rem := rem * 2 ^ s + m * d) hBp (pp s) ?_ ?_
  · have e1 : m * T * B = m * 2 ^ k + m * d := by rw [Nat.mul_assoc, hTd, Nat.mul_add]
    have e2 : m * 2 ^ k = m * A * 2 ^ s := by rw [← hA2, Nat.mul_assoc]
    rw [e1, e2, hmA, Nat.add_mul]
    have e3 : (m * A / B * B + rem) / B = m * A / B := by rw [← hmA]
    rw [e3, Nat.mul_comm (2 ^ s) B, ← Nat.mul_assoc]
    omega
  · have e1 : rem * 2 ^ s + (B - p2 * A % B) * 2 ^ s ≤ B * 2 ^ s := by
      rw [← Nat.add_mul]; exact Nat.mul_le_mul_right _ (by omega)
    have e2 : m * d ≤ 36028797018963968 * d := Nat.mul_le_mul_right _ (Nat.le_of_lt hm)
    rw [Nat.mul_comm (2 ^ s) B]
    rcases Nat.eq_zero_or_pos d with h0 | h0
    · rw [h0, Nat.mul_zero, Nat.add_zero]
      exact Nat.mul_lt_mul_of_pos_right hrB (pp s)
    · have e3 : m * d < 36028797018963968 * d := Nat.mul_lt_mul_of_pos_right hm h0
      omega

theorem lo_ok {e : Int} {u p p2 : Nat} (hc : chkLo e u p p2 = true) : 121 ≤ scS e (-(u : Int)) ∧ scS e (-(u : Int)) ≤ 124 ∧ ∀ m, 0 < m → m < 36028797018963968 → m * scT (-(u : Int)) / 2 ^ (scS e (-(u : Int))).toNat = trN e (-(u : Int)) m / trD e (-(u : Int)) := by
  unfold chkLo at hc
  simp only [Bool.and_eq_true, Nat.ble_eq, Nat.beq_eq] at hc
  obtain ⟨⟨⟨⟨⟨⟨h1, h0⟩, h2⟩, h3⟩, h5⟩, h6⟩, h7⟩ := hc
  obtain ⟨P, hP⟩ : ∃ P, P = 5 ^ u := ⟨_, rfl⟩
  rw [bl2_eq (p5_ne u), ← hP] at h1 h2 h3 h0
  rw [← hP] at h5
  rw [bl2_eq (p5_ne u), ← hP] at h7
  obtain ⟨c, hc⟩ : ∃ c, c = bitLen P - 128 := ⟨_, rfl⟩
  rw [← hc] at h1 h2 h3 h7
  obtain ⟨t, ht⟩ : ∃ t, t = (-e - u).toNat := ⟨_, rfl⟩
  rw [← ht] at h2 h3 h5 h7
  have hS : scS e (-(u : Int)) = ((t - c : Nat) : Int) := by
    unfold scS tnE
    rw [if_neg (by omega), show (- -(u : Int)).toNat = u by omega, ← hP]
    omega
  have hT : scT (-(u : Int)) = P / 2 ^ c := by
    unfold scT tnM
    rw [if_neg (show ¬ - -(u : Int) < 0 by omega), if_neg (show ¬ 0 < -(u : Int) by omega), show (- -(u : Int)).toNat = u by omega, ← hP, if_neg (by omega), ← hc, Nat.add_zero]
  refine ⟨by rw [hS]; omega, by rw [hS]; omega, ?_⟩
  intro m hm0 hm
  rw [hS, Int.toNat_natCast, hT]
  have htr : trN e (-(u : Int)) m / trD e (-(u : Int)) = m * P / 2 ^ t := by
    unfold trN trD
    rw [show (-(u : Int)).toNat = 0 by omega, show e.toNat = 0 by omega, show (- -(u : Int)).toNat = u by omega, Nat.pow_zero, Nat.mul_one, Nat.mul_one, ten_pow, ← hP, ← Nat.mul_assoc]
    have : 2 ^ (-e).toNat = 2 ^ t * 2 ^ u := by rw [← Nat.pow_add]; congr 1; omega
    rw [this, Nat.mul_div_mul_right _ _ (pp u)]
  rw [htr]
  have hBp := pp t
  have hz : p2 * P % 2 ^ t < 2 ^ t := Nat.mod_lt _ hBp
  have hN : Near P (2 ^ t) p (p * P % 2 ^ t) p2 (2 ^ t - p2 * P % 2 ^ t) := by
    refine ⟨⟨p * P / 2 ^ t, by rw [Nat.mul_comm (p * P / 2 ^ t)]; exact (Nat.div_add_mod _ _).symm⟩, ⟨p2 * P / 2 ^ t + 1, ?_⟩, h5, by omega⟩
    have := Nat.div_add_mod (p2 * P) (2 ^ t)
    rw [Nat.add_mul, Nat.one_mul, Nat.mul_comm (p2 * P / 2 ^ t)]
    omega
  obtain ⟨hlow, _⟩ := near_least hN hm0 (Nat.lt_of_lt_of_le hm h6)
  obtain ⟨rem, hrem⟩ : ∃ rem, rem = m * P % 2 ^ t := ⟨_, rfl⟩
  rw [← hrem] at hlow
  have hrB : rem < 2 ^ t := by rw [hrem]; exact Nat.mod_lt _ hBp
  have hmP : m * P = m * P / 2 ^ t * 2 ^ t + rem := by rw [hrem, Nat.mul_comm (m * P / 2 ^ t)]; exact (Nat.div_add_mod _ _).symm
  have hPd := Nat.div_add_mod P (2 ^ c)
  have hmd : m * (P % 2 ^ c) ≤ 36028797018963968 * (P % 2 ^ c) := Nat.mul_le_mul_right _ (Nat.le_of_lt hm)
  have hts : 2 ^ (t - c) * 2 ^ c = 2 ^ t := by rw [← Nat.pow_add]; congr 1; omega
  refine div_same (d := 2 ^ c) (rem := rem - m * (P % 2 ^ c)) (pp c) (pp _) ?_ ?_
  · rw [hts]
    have e1 : m * (P / 2 ^ c) * 2 ^ c + m * (P % 2 ^ c) = m * P := by
      rw [Nat.mul_assoc, ← Nat.mul_add, Nat.mul_comm (P / 2 ^ c), hPd]
    omega
  · rw [hts]; omega

theorem in_ok {e : Int} {u : Nat} (hc : chkIn e u = true) : 121 ≤ scS e (-(u : Int)) ∧ scS e (-(u : Int)) ≤ 124 ∧ ∀ m, 0 < m → m < 36028797018963968 → m * scT (-(u : Int)) / 2 ^ (scS e (-(u : Int))).toNat = trN e (-(u : Int)) m / trD e (-(u : Int)) := by
  unfold chkIn at hc
  simp only [Bool.and_eq_true, Nat.ble_eq] at hc
  obtain ⟨⟨h1, h2⟩, h3⟩ := hc
  obtain ⟨P, hP⟩ : ∃ P, P = 5 ^ u := ⟨_, rfl⟩
  rw [bl2_eq (p5_ne u), ← hP] at h1 h2 h3
  have hS : scS e (-(u : Int)) = 128 - (bitLen P : Int) - u - e := by
    unfold scS tnE
    rw [if_neg (by omega), show (- -(u : Int)).toNat = u by omega, ← hP]
    omega
  have hT : scT (-(u : Int)) = P * 2 ^ (128 - bitLen P) := by
    unfold scT tnM
    rw [if_neg (show ¬ - -(u : Int) < 0 by omega), if_neg (show ¬ 0 < -(u : Int) by omega), show (- -(u : Int)).toNat = u by omega, ← hP, Nat.add_zero]
    split
    · rfl
    · rw [show bitLen P - 128 = 0 by omega, show 128 - bitLen P = 0 by omega, Nat.pow_zero, Nat.mul_one, Nat.div_one]
  refine ⟨by rw [hS]; omega, by rw [hS]; omega, ?_⟩
  intro m hm0 hm
  rw [hS, hT]
  unfold trN trD
  rw [show (-(u : Int)).toNat = 0 by omega, show (- -(u : Int)).toNat = u by omega, Nat.pow_zero, Nat.mul_one, ten_pow, ← hP]
  -- the same ratio
  have e1 : m * (P * 2 ^ (128 - bitLen P)) * 2 ^ (-e).toNat = m * 2 ^ e.toNat * (P * 2 ^ u) * 2 ^ (128 - (bitLen P : Int) - u - e).toNat := by
    have a1 : m * (P * 2 ^ (128 - bitLen P)) * 2 ^ (-e).toNat = m * P * 2 ^ (128 - bitLen P + (-e).toNat) := by rw [Nat.pow_add]; grind
    have a2 : m * 2 ^ e.toNat * (P * 2 ^ u) * 2 ^ (128 - (bitLen P : Int) - u - e).toNat = m * P * 2 ^ (e.toNat + u + (128 - (bitLen P : Int) - u - e).toNat) := by rw [Nat.pow_add, Nat.pow_add]; grind
    rw [a1, a2]
    congr 2
    omega
  rw [← Nat.mul_div_mul_right (m * (P * 2 ^ (128 - bitLen P))) _ (pp (-e).toNat), e1, Nat.mul_comm (2 ^ (128 - (bitLen P : Int) - u - e).toNat), Nat.mul_div_mul_right _ _ (pp _)]

/-- the scaling is exact -/
theorem scale_exact {e : Int} (h1 : -1100 ≤ e) (h2 : e ≤ 1030) : 121 ≤ scS e (l10 e - 1) ∧ scS e (l10 e - 1) ≤ 124 ∧ ∀ m, 0 < m → m < 36028797018963968 → m * scT (l10 e - 1) / 2 ^ (scS e (l10 e - 1)).toNat = trN e (l10 e - 1) m / trD e (l10 e - 1) := by
  obtain ⟨p, p2, h⟩ := chk_all e h1 h2
  unfold chk1 at h
  simp only [Bool.and_eq_true] at h
  obtain ⟨_, h⟩ := h
  generalize l10 e - 1 = q at h ⊢
  match q, h with
  | .ofNat 0, h => exact in_ok (u := 0) h
  | .ofNat (Q + 1), h => exact hi_ok (Q := Q + 1) (by omega) h
  | .negSucc u, h =>
    have hq : Int.negSucc u = -((u + 1 : Nat) : Int) := rfl
    rw [hq]
    replace h : (bif Nat.ble (bl2 (5 ^ (u + 1))) 128 then chkIn e (u + 1) else chkLo e (u + 1) p p2) = true := h
    cases hb : Nat.ble (bl2 (5 ^ (u + 1))) 128 with
    | true => rw [hb] at h; exact in_ok h
    | false => rw [hb] at h; exact lo_ok h
/-- 10^l10 <= 2^e < 10^(l10 + 1) -/
theorem l10_ok {e : Int} (h1 : -1100 ≤ e) (h2 : e ≤ 1030) : 10 ^ (l10 e).toNat * 2 ^ (-e).toNat ≤ 2 ^ e.toNat * 10 ^ (-l10 e).toNat ∧ 2 ^ e.toNat * 10 ^ (-(l10 e + 1)).toNat < 10 ^ (l10 e + 1).toNat * 2 ^ (-e).toNat := by
  obtain ⟨p, p2, h⟩ := chk_all e h1 h2
  unfold chk1 chkLog at h
  simp only [Bool.and_eq_true, Nat.ble_eq, Nat.blt_eq] at h
  exact h.1

end Go.Proofs.Ygcoaj
