/-
  PLAIN: the two ways to the shortest decimal meet (4).
-/
import Derived.Test.YgcoajRyP7
set_option linter.unusedVariables false
set_option linter.unusedSimpArgs false
namespace Go.Proofs.Ygcoaj
open Go.RowKit

theorem pow_even {i : Nat} : 10 ^ i = 1 ∨ 10 ^ i % 2 = 0 := by
  match i with
  | 0 => exact Or.inl rfl
  | i + 1 => right; rw [Nat.pow_succ]; omega

/-- 17 digits are enough -/
theorem wide17 {m bel M u j0 D : Nat} (hM : M ≤ 52) (hm2 : m < 2 * 2 ^ M) (hb : bel = 2 ∨ (bel = 1 ∧ m = 2 ^ M)) (hbm : bel ≤ 4 * m) (hD : 0 < D) (hu : 0 < u) (h : un D (j0 + 16) ≤ 4 * m * u) (ends : Bool) :
    ∃ x, InI ((4 * m - bel) * u) ((4 * m + 2) * u) ends (un D j0) x := by
  have hp : 2 ^ M ≤ 2 ^ 52 := Nat.pow_le_pow_right (by decide) hM
  have hun := un_pos hD j0
  have e1 : un D (j0 + 16) = un D j0 * 10000000000000000 := by
    unfold un
    rw [Nat.pow_add, show (10 : Nat) ^ 16 = 10000000000000000 from rfl, Nat.mul_assoc]
  have e2 : (4 * m - bel) * u + (bel + 2) * u = (4 * m + 2) * u := by rw [← Nat.add_mul, show 4 * m - bel + (bel + 2) = 4 * m + 2 from by omega]
  have hw : un D j0 < (bel + 2) * u := by
    rcases hb with hb | ⟨hb, hmm⟩
    · have q1 : 4 * m * u ≤ 36028797018963968 * u := Nat.mul_le_mul_right _ (by omega)
      have q2 : (bel + 2) * u = 4 * u := by rw [hb]
      omega
    · have q1 : 4 * m * u ≤ 18014398509481984 * u := Nat.mul_le_mul_right _ (by omega)
      have q2 : (bel + 2) * u = 3 * u := by rw [hb]
      omega
  generalize (4 * m - bel) * u = a at *
  generalize (4 * m + 2) * u = b at *
  generalize un D j0 = U at *
  refine ⟨a / U + 1, ?_⟩
  have d1 := Nat.div_add_mod a U
  have d2 := Nat.mod_lt a hun
  have d3 : (a / U + 1) * U = U * (a / U) + U := by rw [Nat.add_mul, Nat.one_mul, Nat.mul_comm]
  unfold InI
  rw [d3]
  split <;> constructor <;> omega

theorem meet {E M : Nat} {neg : Bool} {m De bel n d J c : Nat} {e q T : Int} (h : FOk E M) (hm0 : 0 < m) (hm2 : m < 2 * 2 ^ M) (hDe : De ≠ 0 → 2 ^ M ≤ m) (hfin : De * 2 ^ M + m < infN E M)
    (hbel : bel = belN M m De) (he : e = (De : Int) - biasN E - M - 1) (hvn : n * 2 ^ (biasN E + M - 1) = d * (m * 2 ^ De)) (hd : 0 < d) (hT1 : lgLe T n d) (hT2 : ¬ lgLe (T + 1) n d) (hJ1 : 1 ≤ J)
    (hs : Short (trN e q (4 * m - bel)) (trN e q (4 * m)) (trN e q (4 * m + 2)) (trD e q) (decide (m % 2 = 0)) J c) :
    ∃ ns : Nat, 1 ≤ ns ∧ ns ≤ 17 ∧ T - (ns : Int) + 1 = q + (J : Int) ∧
      (∀ j, 1 ≤ j → j < ns → (cdN E M neg (n * 10 ^ (-(T - 16)).toNat / (d * 10 ^ (T - 16).toNat) / 10 ^ (17 - j)) (T - (j : Int) + 1) == sgnd E M neg (De * 2 ^ M + m)) = false ∧ (cdN E M neg (n * 10 ^ (-(T - 16)).toNat / (d * 10 ^ (T - 16).toNat) / 10 ^ (17 - j) + 1) (T - (j : Int) + 1) == sgnd E M neg (De * 2 ^ M + m)) = false) ∧
      ((cdN E M neg (n * 10 ^ (-(T - 16)).toNat / (d * 10 ^ (T - 16).toNat) / 10 ^ (17 - ns)) (T - (ns : Int) + 1) == sgnd E M neg (De * 2 ^ M + m)) = true ∨ (cdN E M neg (n * 10 ^ (-(T - 16)).toNat / (d * 10 ^ (T - 16).toNat) / 10 ^ (17 - ns) + 1) (T - (ns : Int) + 1) == sgnd E M neg (De * 2 ^ M + m)) = true) ∧
      xsC (cdN E M neg (n * 10 ^ (-(T - 16)).toNat / (d * 10 ^ (T - 16).toNat) / 10 ^ (17 - ns)) (T - (ns : Int) + 1) == sgnd E M neg (De * 2 ^ M + m)) (cdN E M neg (n * 10 ^ (-(T - 16)).toNat / (d * 10 ^ (T - 16).toNat) / 10 ^ (17 - ns) + 1) (T - (ns : Int) + 1) == sgnd E M neg (De * 2 ^ M + m)) (n * 10 ^ (-(T - 16)).toNat / (d * 10 ^ (T - 16).toNat) / 10 ^ (17 - ns)) (ctH (n * 10 ^ (-(T - 16)).toNat / (d * 10 ^ (T - 16).toNat) % 10 ^ (17 - ns)) (10 ^ (17 - ns)) (hfX (n * 10 ^ (-(T - 16)).toNat) (d * 10 ^ (T - 16).toNat)) (smX (n * 10 ^ (-(T - 16)).toNat) (d * 10 ^ (T - 16).toNat))) = c := by
  have hb1 : 1 ≤ biasN E := by
    have := h.e2
    unfold biasN
    have p : 2 ^ 1 ≤ 2 ^ (E - 1) := Nat.pow_le_pow_right (by decide) (by omega)
    omega
  have hbr : bel = 2 ∨ (bel = 1 ∧ m = 2 ^ M) := by
    rw [hbel]; unfold belN
    split
    · rename_i hh; exact Or.inr ⟨rfl, hh.1⟩
    · exact Or.inl rfl
  have hn : 0 < n := by
    rcases Nat.eq_zero_or_pos n with h0 | h0
    · exfalso
      rw [h0, Nat.zero_mul] at hvn
      have : 0 < d * (m * 2 ^ De) := Nat.mul_pos hd (Nat.mul_pos hm0 (Nat.pow_pos (by decide)))
      omega
    · exact h0
  have hval := val_eq (q := q) hvn (show e = (De : Int) - ((biasN E + M - 1 : Nat) : Int) - 2 by omega)
  have hhit := fun (j c : Nat) (hc : 0 < c) => hit (neg := neg) (c := c) (j := j) (q := q) h hm0 hm2 hDe hfin hbel he hc
  have hDp := trD_pos e q
  have hv0 : 0 < trN e q (4 * m) := by rw [trN_u0]; exact Nat.mul_pos (by omega) (u0_pos e q)
  have hlg := fun (j : Nat) => lg_un (j := j) hn hv0 hval
  have hwide := fun (j0 : Nat) (hj : un (trD e q) (j0 + 16) ≤ 4 * m * u0 e q) => wide17 h.m52 hm2 hbr (by rcases hbr with hb | ⟨hb, _⟩ <;> omega) hDp (u0_pos e q) hj (decide (m % 2 = 0))
  rw [← trN_u0] at hwide
  simp only [← trN_u0] at hwide
  generalize sgnd E M neg (De * 2 ^ M + m) = X at *
  generalize trN e q (4 * m - bel) = a at *
  generalize trN e q (4 * m) = v at *
  generalize trN e q (4 * m + 2) = b at *
  generalize trD e q = D at *
  generalize decide (m % 2 = 0) = ends at *
  -- the scale's place
  have hup : ∀ j : Nat, 1 ≤ v / un D j ↔ un D j ≤ v := fun j => by
    rw [Nat.le_div_iff_mul_le (un_pos hDp j), Nat.one_mul]
  have hJT : q + (J : Int) ≤ T := by
    rcases Int.lt_or_le T (q + J) with hc | hc
    · exact absurd (lgLe_down ((hlg J).2 ((hup J).1 hs.pos)) (by omega)) hT2
    · exact hc
  have hJ17 : T - 16 ≤ q + (J : Int) := by
    rcases Int.lt_or_le (q + J) (T - 16) with hc | hc
    · exfalso
      obtain ⟨j0, hj0⟩ : ∃ j0 : Nat, q + (j0 : Int) = T - 16 := ⟨(T - 16 - q).toNat, by omega⟩
      have l1 : un D (j0 + 16) ≤ v := (hlg (j0 + 16)).1 (by rw [show q + ((j0 + 16 : Nat) : Int) = T from by omega]; exact hT1)
      have l2 : un D j0 ≤ v := (hlg j0).1 (lgLe_down hT1 (by omega))
      obtain ⟨x, hx⟩ := hwide j0 l1
      exact hs.most j0 (by omega) ((hup j0).2 l2) x hx
    · exact hc
  obtain ⟨ns, hns⟩ : ∃ ns : Nat, (ns : Int) = T - q - J + 1 := ⟨(T - q - J + 1).toNat, by omega⟩
  have hQ : 0 < d * 10 ^ (T - 16).toNat := Nat.mul_pos hd (t10 _)
  obtain ⟨P, hP⟩ : ∃ P, P = n * 10 ^ (-(T - 16)).toNat := ⟨_, rfl⟩
  obtain ⟨Q, hQe⟩ : ∃ Q, Q = d * 10 ^ (T - 16).toNat := ⟨_, rfl⟩
  have hlv : ∀ j i : Nat, q + (j : Int) = T - 16 + (i : Int) → P * un D j = v * (Q * 10 ^ i) := fun j i hk => by rw [hP, hQe]; exact lvl_eq hval hk
  rw [← hP, ← hQe]
  rw [← hQe] at hQ
  clear hP hQe
  have hlo : ∀ j i : Nat, q + (j : Int) = T - 16 + (i : Int) → P / Q / 10 ^ i = v / un D j := fun j i hk => by
    rw [Nat.div_div_eq_div_mul]; exact rat_div (Nat.mul_pos hQ (t10 _)) (un_pos hDp j) (hlv j i hk)
  refine ⟨ns, by omega, by omega, by omega, ?_, ?_, ?_⟩
  · intro jj h1 h2
    obtain ⟨j, hj⟩ : ∃ j : Nat, q + (j : Int) = T - (jj : Int) + 1 := ⟨(T - (jj : Int) + 1 - q).toNat, by omega⟩
    have hk := hlo j (17 - jj) (by omega)
    have l2 : un D j ≤ v := (hlg j).1 (lgLe_down hT1 (by omega))
    have l3 := (hup j).2 l2
    have hno := hs.most j (by omega) l3
    rw [hk, ← hj]
    constructor
    · rw [beq_eq_false_iff_ne]; intro hh; exact hno _ ((hhit j (v / un D j) (by omega)).1 hh)
    · rw [beq_eq_false_iff_ne]; intro hh; exact hno _ ((hhit j (v / un D j + 1) (by omega)).1 hh)
  · have hk := hlo J (17 - ns) (by omega)
    have hps := hs.pos
    rw [hk, show T - (ns : Int) + 1 = q + (J : Int) from by omega, beq_iff_eq, beq_iff_eq, hhit J (v / un D J) (by omega), hhit J (v / un D J + 1) (by omega)]
    rcases hs.best with ⟨hc, _⟩ | ⟨hc, _⟩
    · left; rw [← hc]; exact hs.here
    · right; rw [← hc]; exact hs.here
  · have hk := hlo J (17 - ns) (by omega)
    have hps := hs.pos
    have hct := ct_half (P := P) (Q := Q) (A := P / Q) (p := 10 ^ (17 - ns)) hQ rfl pow_even (t10 _)
    have hrh := rat_half (Nat.mul_pos hQ (t10 (17 - ns))) (un_pos hDp J) (hlv J (17 - ns) (by omega))
    rw [hk, show T - (ns : Int) + 1 = q + (J : Int) from by omega]
    refine xsC_eq (P := fun x => InI a b ends (un D J) x) (r := v % un D J) (u := un D J) ?_ ?_ (hct.1.trans hrh.1) (hct.2.trans hrh.2) hs.here hs.best
    · rw [beq_iff_eq, hhit J (v / un D J) (by omega)]
    · rw [beq_iff_eq, hhit J (v / un D J + 1) (by omega)]

end Go.Proofs.Ygcoaj
