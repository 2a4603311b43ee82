/-
  PLAIN: soft's comparison is exact's.
-/
import Derived.Test.YgcoajXCmp
import Derived.Test.YgcoajSCmp
set_option linter.unusedVariables false
set_option linter.unusedSimpArgs false
namespace Go.Proofs.Ygcoaj
open Go.RowKit

def mag (E M x : Nat) : Nat := x % 2 ^ (E + M)
def sVal (E M x : Nat) : Nat := if fExp E M x = 0 then fMan M x else (fMan M x + 2 ^ M) * 2 ^ (fExp E M x - 1)

theorem mag_eq (E M x : Nat) : mag E M x = fExp E M x * 2 ^ M + fMan M x := by
  unfold mag fExp fMan
  rw [Nat.add_comm E M, Nat.pow_add, Nat.mod_mul, Nat.mul_comm (x / 2 ^ M % 2 ^ E)]; omega

theorem fExp_mod (E M x : Nat) : fExp E M (x % 2 ^ (E + M + 1)) = fExp E M x := by
  unfold fExp
  rw [show E + M + 1 = M + (E + 1) by omega, Nat.pow_add, Nat.mod_mul_right_div_self, Nat.mod_mod_of_dvd _ (Nat.pow_dvd_pow 2 (Nat.le_succ E))]
theorem fMan_mod (E M x : Nat) : fMan M (x % 2 ^ (E + M + 1)) = fMan M x := by
  unfold fMan
  exact Nat.mod_mod_of_dvd _ (Nat.pow_dvd_pow 2 (by omega))
theorem fNeg_mod (E M x : Nat) : fNeg E M (x % 2 ^ (E + M + 1)) = fNeg E M x := by
  unfold fNeg
  rw [Nat.testBit_mod_two_pow]; simp

theorem sVal_lt (E M x : Nat) : sVal E M x < 2 ^ (M + fExp E M x) := by
  have hm : fMan M x < 2 ^ M := Nat.mod_lt _ (pow2_pos M)
  unfold sVal
  split
  · next h => rw [h]; exact hm
  · next h =>
    have h1 : (fMan M x + 2 ^ M) * 2 ^ (fExp E M x - 1) < 2 ^ (M + 1) * 2 ^ (fExp E M x - 1) := Nat.mul_lt_mul_of_pos_right (by rw [Nat.pow_succ]; omega) (pow2_pos _)
    rw [← Nat.pow_add, show M + 1 + (fExp E M x - 1) = M + fExp E M x by omega] at h1
    exact h1
theorem sVal_ge (E M x : Nat) (h : fExp E M x ≠ 0) : 2 ^ (M + fExp E M x - 1) ≤ sVal E M x := by
  unfold sVal
  rw [if_neg h, show M + fExp E M x - 1 = M + (fExp E M x - 1) by omega, Nat.pow_add]
  exact Nat.mul_le_mul_right _ (by omega)

theorem sVal_mono {E M x y : Nat} (h : mag E M x < mag E M y) : sVal E M x < sVal E M y := by
  rw [mag_eq, mag_eq] at h
  have hx : fMan M x < 2 ^ M := Nat.mod_lt _ (pow2_pos M)
  have hy : fMan M y < 2 ^ M := Nat.mod_lt _ (pow2_pos M)
  by_cases he : fExp E M x = fExp E M y
  · have hm : fMan M x < fMan M y := by rw [he] at h; omega
    unfold sVal
    rw [he]
    split
    · exact hm
    · exact Nat.mul_lt_mul_of_pos_right (by omega) (pow2_pos _)
  · have hlt : fExp E M x < fExp E M y := by
      by_cases hc : fExp E M x < fExp E M y
      · exact hc
      · have h1 : fExp E M y + 1 ≤ fExp E M x := by omega
        have h2 : (fExp E M y + 1) * 2 ^ M ≤ fExp E M x * 2 ^ M := Nat.mul_le_mul_right _ h1
        rw [Nat.add_mul, Nat.one_mul] at h2
        omega
    have h1 := sVal_lt E M x
    have h2 := sVal_ge E M y (by omega)
    have h3 : 2 ^ (M + fExp E M x) ≤ 2 ^ (M + fExp E M y - 1) := Nat.pow_le_pow_right (by decide) (by omega)
    omega
theorem sVal_zero {E M x : Nat} : sVal E M x = 0 ↔ mag E M x = 0 := by
  constructor
  · intro h
    by_cases hc : mag E M x = 0
    · exact hc
    · have h0 : mag E M 0 < mag E M x := by
        have : mag E M 0 = 0 := by unfold mag; exact Nat.zero_mod _
        omega
      have := sVal_mono h0
      omega
  · intro h
    rw [mag_eq] at h
    have h1 : fExp E M x * 2 ^ M = 0 := by omega
    have h2 : fExp E M x = 0 := by
      rcases Nat.mul_eq_zero.1 h1 with h | h
      · exact h
      · have := pow2_pos M; omega
    unfold sVal; rw [if_pos h2]; omega
theorem sVal_eq {E M x y : Nat} : sVal E M x = sVal E M y ↔ mag E M x = mag E M y := by
  constructor
  · intro h
    rcases Nat.lt_trichotomy (mag E M x) (mag E M y) with hc | hc | hc
    · have := sVal_mono hc; omega
    · exact hc
    · have := sVal_mono hc; omega
  · intro h
    have e1 := mag_eq E M x
    have e2 := mag_eq E M y
    have hx : fMan M x < 2 ^ M := Nat.mod_lt _ (pow2_pos M)
    have hy : fMan M y < 2 ^ M := Nat.mod_lt _ (pow2_pos M)
    have h1 : fExp E M x = fExp E M y := by
      have a1 : mag E M x / 2 ^ M = fExp E M x := by rw [e1, Nat.mul_comm, Nat.mul_add_div (pow2_pos M), Nat.div_eq_of_lt hx]; rfl
      have a2 : mag E M y / 2 ^ M = fExp E M y := by rw [e2, Nat.mul_comm, Nat.mul_add_div (pow2_pos M), Nat.div_eq_of_lt hy]; rfl
      rw [← a1, ← a2, h]
    have h2 : fMan M x = fMan M y := by rw [h1] at e1; omega
    unfold sVal; rw [h1, h2]

theorem upC_zero {E M x : Nat} (h : upC E M x = 0) : fExp E M x = 0 ∧ fMan M x = 0 := by
  unfold upC at h
  split at h
  · split at h <;> omega
  · split at h
    · split at h
      · exact ⟨‹_›, ‹_›⟩
      · omega
    · omega
theorem upC_one {E M x : Nat} (h : upC E M x = 1) : fExp E M x = 0 ∧ fMan M x ≠ 0 := by
  unfold upC at h
  split at h
  · split at h <;> omega
  · split at h
    · split at h
      · omega
      · exact ⟨‹_›, ‹_›⟩
    · omega
theorem upC_two {E M x : Nat} (h : upC E M x = 2) : fExp E M x ≠ 0 ∧ fExp E M x ≠ 2 ^ E - 1 := by
  unfold upC at h
  split at h
  · split at h <;> omega
  · split at h
    · split at h <;> omega
    · exact ⟨‹_›, ‹_›⟩

/-- what Value gives, in units of the least subnormal -/
theorem vNum_eq {E M x : Nat} (h : FOk E M) (hC : upC E M x = 0 ∨ upC E M x = 1 ∨ upC E M x = 2) : vNum E M x * 2 ^ (biasN E + M - 1) = vDen E M x * sVal E M x := by
  have hb := biasN_pos h.e2
  have hm := h.m2
  unfold vNum vDen upM upE sVal
  rcases hC with hC | hC | hC
  · obtain ⟨h1, h2⟩ := upC_zero hC
    rw [hC, h1, h2]; simp
  · obtain ⟨h1, h2⟩ := upC_one hC
    rw [hC, if_pos rfl, if_pos rfl, if_pos h1]
    generalize hU : M + 1 - bitLen (fMan M x) = U
    rw [show (1 - (biasN E : Int) - M - (U : Int)).toNat = 0 by omega, show (-(1 - (biasN E : Int) - M - (U : Int))).toNat = (biasN E + M - 1) + U by omega, Nat.pow_zero, Nat.mul_one, Nat.pow_add]
    grind
  · obtain ⟨h1, h2⟩ := upC_two hC
    rw [hC, if_neg (show ¬ (2 : Int) = 1 by decide), if_neg (show ¬ (2 : Int) = 1 by decide), if_pos (show (2 : Int) = 2 from rfl), if_pos (show (2 : Int) = 2 from rfl), if_neg h1]
    by_cases hs : fExp E M x < biasN E + M
    · rw [show ((fExp E M x : Int) - (biasN E : Int) - M).toNat = 0 by omega, show (-((fExp E M x : Int) - (biasN E : Int) - M)).toNat = biasN E + M - fExp E M x by omega, Nat.pow_zero, Nat.mul_one,
        show biasN E + M - 1 = (biasN E + M - fExp E M x) + (fExp E M x - 1) by omega, Nat.pow_add]
      grind
    · rw [show ((fExp E M x : Int) - (biasN E : Int) - M).toNat = fExp E M x - biasN E - M by omega, show (-((fExp E M x : Int) - (biasN E : Int) - M)).toNat = 0 by omega, Nat.pow_zero, Nat.one_mul,
        show fExp E M x - 1 = (fExp E M x - biasN E - M) + (biasN E + M - 1) by omega, Nat.pow_add]
      grind

theorem vDen_pos (E M x : Nat) : 0 < vDen E M x := pow2_pos _

theorem cross_lt {D p1 q1 p2 q2 s1 s2 : Nat} (hD : 0 < D) (h1 : p1 * D = q1 * s1) (h2 : p2 * D = q2 * s2) (hq1 : 0 < q1) (hq2 : 0 < q2) : p1 * q2 < p2 * q1 ↔ s1 < s2 := by
  have e1 : p1 * q2 * D = q1 * q2 * s1 := by grind
  have e2 : p2 * q1 * D = q1 * q2 * s2 := by grind
  have hq : 0 < q1 * q2 := Nat.mul_pos hq1 hq2
  constructor
  · intro h
    have := Nat.mul_lt_mul_of_pos_right h hD
    rw [e1, e2] at this
    exact Nat.lt_of_mul_lt_mul_left this
  · intro h
    have := Nat.mul_lt_mul_of_pos_left h hq
    rw [← e1, ← e2] at this
    exact Nat.lt_of_mul_lt_mul_right this

theorem upC_three {E M x : Nat} (h : upC E M x = 3) : fExp E M x = 2 ^ E - 1 ∧ fMan M x = 0 := by
  unfold upC at h
  split at h
  · split at h
    · exact ⟨‹_›, ‹_›⟩
    · omega
  · split at h
    · split at h <;> omega
    · omega
theorem mag_top {E M x : Nat} (h : upC E M x = 3) : mag E M x = (2 ^ E - 1) * 2 ^ M := by
  obtain ⟨h1, h2⟩ := upC_three h
  rw [mag_eq, h1, h2]; rfl
theorem mag_fin {E M x : Nat} (hC : upC E M x = 0 ∨ upC E M x = 1 ∨ upC E M x = 2) : mag E M x < (2 ^ E - 1) * 2 ^ M := by
  have hx : fMan M x < 2 ^ M := Nat.mod_lt _ (pow2_pos M)
  have hE : fExp E M x < 2 ^ E := Nat.mod_lt _ (pow2_pos E)
  have hne : fExp E M x ≠ 2 ^ E - 1 := by
    intro he
    have : upC E M x = 3 ∨ upC E M x = 4 := by
      unfold upC; rw [if_pos he]; split <;> simp
    omega
  rw [mag_eq]
  have h1 : (fExp E M x + 1) * 2 ^ M ≤ (2 ^ E - 1) * 2 ^ M := Nat.mul_le_mul_right _ (by omega)
  rw [Nat.add_mul, Nat.one_mul] at h1
  omega

/-- the finite case, in plain numbers -/
theorem cmp_fin (N1 N2 : Bool) (m1 m2 x y : Nat) (h1 : x < y ↔ m1 < m2) (h2 : y < x ↔ m2 < m1) (h3 : x + y = 0 ↔ m1 = 0 ∧ m2 = 0) :
    (if ((m1 == 0) && (m2 == 0)) || ((N1 == N2) && (m1 == m2)) then (0 : Int)
      else if ((N1 != N2) && N1) || ((N1 == N2) && (decide (m1 < m2) != N1)) then -1 else 1)
    = (if adNum N1 (!N2) x y = 0 then 0 else if adNeg N1 (!N2) x y then -1 else 1) := by
  unfold adNum adNeg
  cases N1 <;> cases N2 <;> simp <;> (repeat' split) <;> omega

/-- an infinity against anything but NaN -/
theorem cmp_inf (N1 N2 : Bool) (m1 m2 top : Nat) (ht : 0 < top) (C1 C2 : Int) (h1 : C1 = 3 → m1 = top) (h2 : C2 = 3 → m2 = top) (h3 : C1 ≠ 3 → m1 < top) (h4 : C2 ≠ 3 → m2 < top) (hr : C1 = 3 ∨ C2 = 3) :
    (if ((m1 == 0) && (m2 == 0)) || ((N1 == N2) && (m1 == m2)) then (0 : Int)
      else if ((N1 != N2) && N1) || ((N1 == N2) && (decide (m1 < m2) != N1)) then -1 else 1)
    = cmpI (rk C1 N1) (rk C2 N2) := by
  unfold rk cmpI
  by_cases hc1 : C1 = 3
  · have e1 := h1 hc1
    by_cases hc2 : C2 = 3
    · have e2 := h2 hc2
      rw [if_pos hc1, if_pos hc2]
      cases N1 <;> cases N2 <;> simp <;> (repeat' split) <;> omega
    · have e2 := h4 hc2
      rw [if_pos hc1, if_neg hc2]
      cases N1 <;> cases N2 <;> simp <;> (repeat' split) <;> omega
  · have e1 := h3 hc1
    have hc2 : C2 = 3 := by rcases hr with h | h; exact absurd h hc1; exact h
    have e2 := h2 hc2
    rw [if_neg hc1, if_pos hc2]
    cases N1 <;> cases N2 <;> simp <;> (repeat' split) <;> omega

theorem rk_ne {C : Int} {N : Bool} : rk C N ≠ 0 ↔ C = 3 := by
  unfold rk; split
  · cases N <;> simp [*]
  · simp [*]

theorem cmp_law {E M : Nat} (h : FOk E M) (a b : Nat) :
    softCmp E M a b = xCmp (upC E M a) (upC E M b) (fNeg E M a) (fNeg E M b) (vN E M a) (vN E M b) (vNum E M a) (vDen E M a) (vNum E M b) (vDen E M b) := by
  unfold softCmp xCmp
  by_cases h4 : upC E M a = 4 ∨ upC E M b = 4
  · rw [if_pos h4, if_pos (by rcases h4 with h | h <;> simp [h])]
  · have a4 : upC E M a ≠ 4 := fun e => h4 (Or.inl e)
    have b4 : upC E M b ≠ 4 := fun e => h4 (Or.inr e)
    rw [if_neg h4, if_neg (by simp [a4, b4])]
    have ea : upN E M a = fNeg E M a := by unfold upN; rw [if_neg a4]
    have eb : upN E M b = fNeg E M b := by unfold upN; rw [if_neg b4]
    rw [ea, eb]
    have ra := upC_range E M a
    have rb := upC_range E M b
    have ht : 0 < (2 ^ E - 1) * 2 ^ M := Nat.mul_pos (by have : 2 ^ 2 ≤ 2 ^ E := Nat.pow_le_pow_right (by decide) h.e2
                                                         omega) (pow2_pos M)
    by_cases hr : upC E M a = 3 ∨ upC E M b = 3
    · rw [if_pos (show rk (upC E M a) (fNeg E M a) ≠ 0 ∨ rk (upC E M b) (fNeg E M b) ≠ 0 by rcases hr with h | h; exact Or.inl (rk_ne.2 h); exact Or.inr (rk_ne.2 h))]
      exact cmp_inf _ _ (mag E M a) (mag E M b) _ ht _ _ mag_top mag_top (fun hn => mag_fin (by omega)) (fun hn => mag_fin (by omega)) hr
    · have a3 : upC E M a ≠ 3 := fun e => hr (Or.inl e)
      have b3 : upC E M b ≠ 3 := fun e => hr (Or.inr e)
      rw [if_neg (show ¬ (rk (upC E M a) (fNeg E M a) ≠ 0 ∨ rk (upC E M b) (fNeg E M b) ≠ 0) by rw [rk_ne, rk_ne]; exact hr)]
      have ga : vN E M a = fNeg E M a := by unfold vN; rw [if_neg a3, ea]
      have gb : vN E M b = fNeg E M b := by unfold vN; rw [if_neg b3, eb]
      rw [ga, gb]
      have va := vNum_eq h (x := a) (by omega)
      have vb := vNum_eq h (x := b) (by omega)
      have D := pow2_pos (biasN E + M - 1)
      have qa := vDen_pos E M a
      have qb := vDen_pos E M b
      have c1 := cross_lt D va vb qa qb
      have c2 := cross_lt D vb va qb qa
      refine cmp_fin _ _ (mag E M a) (mag E M b) _ _ ?_ ?_ ?_
      · rw [c1]
        constructor
        · intro hs
          rcases Nat.lt_trichotomy (mag E M a) (mag E M b) with hc | hc | hc
          · exact hc
          · have := sVal_eq.2 hc; omega
          · have := sVal_mono hc; omega
        · exact sVal_mono
      · rw [c2]
        constructor
        · intro hs
          rcases Nat.lt_trichotomy (mag E M b) (mag E M a) with hc | hc | hc
          · exact hc
          · have := sVal_eq.2 hc; omega
          · have := sVal_mono hc; omega
        · exact sVal_mono
      · have z : ∀ x, upC E M x = 0 ∨ upC E M x = 1 ∨ upC E M x = 2 → (vNum E M x = 0 ↔ mag E M x = 0) := by
          intro x hx
          have v := vNum_eq h hx
          rw [← sVal_zero]
          constructor
          · intro e
            rw [e, Nat.zero_mul] at v
            rcases Nat.mul_eq_zero.1 v.symm with e | e
            · have := vDen_pos E M x; omega
            · exact e
          · intro e
            rw [e, Nat.mul_zero] at v
            rcases Nat.mul_eq_zero.1 v with e | e
            · exact e
            · omega
        rw [← z a (by omega), ← z b (by omega)]
        constructor
        · intro e
          have e1 : vNum E M a * vDen E M b = 0 := by omega
          have e2 : vNum E M b * vDen E M a = 0 := by omega
          constructor
          · rcases Nat.mul_eq_zero.1 e1 with e | e
            · exact e
            · omega
          · rcases Nat.mul_eq_zero.1 e2 with e | e
            · exact e
            · omega
        · rintro ⟨e1, e2⟩
          rw [e1, e2]; simp

end Go.Proofs.Ygcoaj
