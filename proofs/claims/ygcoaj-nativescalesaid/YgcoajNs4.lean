/-
  WALKS: math.Ldexp, math.Ilogb; native.ScaleB64 (40), native.LogB64 (38).
-/
import Derived.Test.YgcoajNs3
set_option linter.unusedVariables false
set_option linter.unusedSimpArgs false
namespace Go.Proofs.Ygcoaj
open Go.RowKit

def ldN (a : Nat) (n : Int) : Nat := if lbOk 11 52 a = true then ldF a n else a
theorem lbOk_not {a : Nat} (ho : lbOk 11 52 a = false) : upC 11 52 a = 0 ∨ upC 11 52 a = 3 ∨ upC 11 52 a = 4 := by
  unfold lbOk at ho
  simp only [Bool.or_eq_false_iff, decide_eq_false_iff_not] at ho
  have := upC_range 11 52 a
  omega
set_option maxRecDepth 100000 in
theorem ldexp_ok (a : Nat) (n : Int) (ha : a < 18446744073709551616) (hn1 : -40000 ≤ n) (hn2 : n ≤ 40000) (w : World) :
    Calls Oajg.prog 180 #[.float .f64 a, .int .i64 n] w fun e w' => e = .returned (.float .f64 (ldN a n)) ∧ w' = w := by
  cases ho : lbOk 11 52 a with
  | true =>
    have : ldN a n = ldF a n := by unfold ldN; rw [if_pos ho]
    rw [this]
    exact ldexp_fin a n ha ho hn1 hn2 w
  | false =>
    have : ldN a n = a := by unfold ldN; rw [ho, if_neg (by decide)]
    rw [this]
    have hc := lbOk_not ho
    have HI := hidden' (isInf_ok a ha)
    have HA := hidden' (isNaN_ok a)
    have hz := eq_zero (x := a)
    clear this ho
    rcases hc with h0 | h3 | h4
    · have hz2 : (FloatKind.f64.format.order a 0 == some .eq) = true := by rw [hz]; simp [h0]
      clear hz h0
      go_enter Oajg.func180, Oajg.ntmps180
      go_wp2_with fail
      go_ret
      exact ⟨rfl, rfl⟩
    · have hz2 : (FloatKind.f64.format.order a 0 == some .eq) = false := by rw [hz]; simp [h3]
      replace HI : Hid (∀ w, Calls Oajg.prog 176 #[.float .f64 a, .int .i64 0] w fun e w' => e = .returned (.bool true) ∧ w' = w) := fun w => by
        have := HI.out w
        rw [show decide (upC 11 52 a = 3) = true by simp [h3]] at this
        exact this
      clear hz h3
      go_enter Oajg.func180, Oajg.ntmps180
      go_wp2_with fail
      refine Calls.mono (HI.out _) ?_
      rintro _ w0 ⟨rfl, hw⟩
      subst w0
      go_wp2_with fail
      go_ret
      exact ⟨rfl, rfl⟩
    · have hz2 : (FloatKind.f64.format.order a 0 == some .eq) = false := by rw [hz]; simp [h4]
      replace HI : Hid (∀ w, Calls Oajg.prog 176 #[.float .f64 a, .int .i64 0] w fun e w' => e = .returned (.bool false) ∧ w' = w) := fun w => by
        have := HI.out w
        rw [show decide (upC 11 52 a = 3) = false by simp [h4]] at this
        exact this
      replace HA : Hid (∀ w, Calls Oajg.prog 175 #[.float .f64 a] w fun e w' => e = .returned (.bool true) ∧ w' = w) := fun w => by
        have := HA.out w
        rw [show decide (upC 11 52 a = 4) = true by simp [h4]] at this
        exact this
      clear hz h4
      go_enter Oajg.func180, Oajg.ntmps180
      go_wp2_with fail
      refine Calls.mono (HI.out _) ?_
      rintro _ w0 ⟨rfl, hw⟩
      subst w0
      go_wp2_with fail
      refine Calls.mono (HA.out _) ?_
      rintro _ w0 ⟨rfl, hw⟩
      subst w0
      go_wp2_with fail
      go_ret
      exact ⟨rfl, rfl⟩
set_option maxRecDepth 100000 in
theorem Ldexp_ok (a : Nat) (n : Int) (ha : a < 18446744073709551616) (hn1 : -40000 ≤ n) (hn2 : n ≤ 40000) (w : World) :
    Calls Oajg.prog 141 #[.float .f64 a, .int .i64 n] w fun e w' => e = .returned (.float .f64 (ldN a n)) ∧ w' = w := by
  have H := hidden' (ldexp_ok a n ha hn1 hn2)
  generalize ldN a n = R at *
  go_enter Oajg.func141, Oajg.ntmps141
  go_wp2_with fail
  refine Calls.mono (H.out _) ?_
  rintro _ w0 ⟨rfl, hw⟩
  subst w0
  go_wp2_with fail
  go_ret
  exact ⟨rfl, rfl⟩
set_option maxRecDepth 100000 in
theorem nldexp_ok (a : Nat) (n : Int) (ha : a < 18446744073709551616) (hn1 : -40000 ≤ n) (hn2 : n ≤ 40000) (w : World) :
    Calls Oajg.prog 90 #[.float .f64 a, .int .i64 n] w fun e w' => e = .returned (.float .f64 (ldN a n)) ∧ w' = w := by
  have H := hidden' (Ldexp_ok a n ha hn1 hn2)
  generalize ldN a n = R at *
  go_enter Oajg.func90, Oajg.ntmps90
  go_wp2_with fail
  refine Calls.mono (H.out _) ?_
  rintro _ w0 ⟨rfl, hw⟩
  subst w0
  go_wp2_with fail
  go_ret
  exact ⟨rfl, rfl⟩

/-! ### ScaleB64 -/
theorem rf_word {E M : Nat} {neg : Bool} {n d : Nat} : ∃ x, x ≤ infN E M ∧ rfN E M 0 neg n d = sgnd E M neg x := by
  unfold rfN
  split
  · exact ⟨0, Nat.zero_le _, rfl⟩
  · split
    · exact ⟨_, Nat.le_refl _, ov0 E M neg⟩
    · unfold pkN
      split
      · exact ⟨_, Nat.le_refl _, ov0 E M neg⟩
      · exact ⟨_, by omega, rfl⟩
theorem word_class {E M x : Nat} {neg : Bool} (h : FOk E M) (hx : x ≤ infN E M) : upC E M (sgnd E M neg x) ≠ 4 := by
  have hlt : x < 2 ^ (E + M) := Nat.lt_of_le_of_lt hx (infN_lt E M)
  have e1 := fExp_sgnd neg hlt
  have e2 := fMan_sgnd (E := E) (M := M) (x := x) neg
  intro hc
  have hx4 : fExp E M (sgnd E M neg x) = 2 ^ E - 1 ∧ fMan M (sgnd E M neg x) ≠ 0 := by
    unfold upC at hc
    split at hc
    · rename_i h1
      split at hc
      · omega
      · rename_i h2; exact ⟨h1, h2⟩
    · split at hc
      · split at hc <;> omega
      · omega
  rw [e1, e2] at hx4
  have h1 := Nat.div_add_mod x (2 ^ M)
  rw [hx4.1, Nat.mul_comm] at h1
  unfold infN at hx
  omega
theorem sg_lt {E M x : Nat} {neg : Bool} (hx : x ≤ infN E M) : sgnd E M neg x < 2 ^ (E + M + 1) := by
  have hlt : x < 2 ^ (E + M) := Nat.lt_of_le_of_lt hx (infN_lt E M)
  unfold sgnd
  rw [Nat.pow_succ]
  split <;> omega
theorem scale_plain {a : Nat} {n : Int} (ha : a < 18446744073709551616) : p64 (ldN a n) = scN 11 52 0 a n := by
  have h64 : a % 2 ^ (11 + 52 + 1) = a := Nat.mod_eq_of_lt ha
  cases ho : lbOk 11 52 a with
  | true =>
    have e : ldN a n = ldF a n := by unfold ldN; rw [if_pos ho]
    have ho' := ho
    unfold lbOk at ho'
    simp only [Bool.or_eq_true, decide_eq_true_eq] at ho'
    rw [e]
    obtain ⟨x, hx, hw⟩ := rf_word (E := 11) (M := 52) (neg := fNeg 11 52 a) (n := scNum 11 52 a n) (d := scDen 11 52 a n)
    have hw2 : ldF a n = sgnd 11 52 (fNeg 11 52 a) x := hw
    have hne : upC 11 52 (ldF a n) ≠ 4 := by rw [hw2]; exact word_class f64ok hx
    unfold p64 scN
    rw [if_neg hne, if_neg (by omega), if_neg (by omega)]
    rfl
  | false =>
    have e : ldN a n = a := by unfold ldN; rw [ho, if_neg (by decide)]
    rw [e]
    rcases lbOk_not ho with h0 | h3 | h4
    · unfold p64 scN
      rw [if_neg (by omega), if_neg (by omega), if_neg (by omega)]
      have hz : scNum 11 52 a n = 0 := by unfold scNum vNum; rw [upM_zero ho]; simp
      have := bits_zero f64ok h0
      rw [h64] at this
      unfold rfN
      rw [if_pos hz]
      exact this
    · unfold p64 scN
      rw [if_neg (by omega), if_neg (by omega), if_pos h3]
      have := bits_inf f64ok h3
      rw [h64] at this
      exact this
    · unfold p64 scN
      rw [if_pos h4, if_pos h4]
set_option maxRecDepth 100000 in
theorem scaleB64_ok (a : Nat) (n : Int) (ha : a < 18446744073709551616) (hn1 : -32768 ≤ n) (hn2 : n ≤ 32767) (w : World) :
    Calls Oajg.prog 40 #[.int .u64 (a : Int), .int .i16 n] w fun e w' => e = .returned (.int .u64 (scN 11 52 0 a n : Nat)) ∧ w' = w := by
  have H1 := hidden' (from64_ok a)
  have H2 := hidden' (nldexp_ok a n ha (by omega) (by omega))
  have H3 : Hid (∀ w, Calls Oajg.prog 88 #[.float .f64 (ldN a n)] w fun e w' => e = .returned (.int .u64 (scN 11 52 0 a n : Nat)) ∧ w' = w) := fun w => by
    have := put64_ok (ldN a n) w
    rw [scale_plain ha] at this
    exact this
  generalize ldN a n = R at *
  generalize scN 11 52 0 a n = S at *
  go_enter Oajg.func40, Oajg.ntmps40
  go_wp2_with fail
  refine Calls.mono (H1.out _) ?_
  rintro _ w0 ⟨rfl, hw⟩
  subst w0
  go_wp2_with fail
  refine Calls.mono (H2.out _) ?_
  rintro _ w0 ⟨rfl, hw⟩
  subst w0
  go_wp2_with fail
  refine Calls.mono (H3.out _) ?_
  rintro _ w0 ⟨rfl, hw⟩
  subst w0
  go_wp2_with fail
  go_ret
  exact ⟨rfl, rfl⟩

/-! ### LogB64 -/
def ilN (a : Nat) : Int := if lbOk 11 52 a = true then upE 11 52 a + 52 else if upC 11 52 a = 0 then -2147483648 else 2147483647
set_option maxRecDepth 100000 in
theorem Ilogb_ok (a : Nat) (ha : a < 18446744073709551616) (w : World) : Calls Oajg.prog 137 #[.float .f64 a] w fun e w' => e = .returned (.int .i64 (ilN a)) ∧ w' = w := by
  have HI := hidden' (isInf_ok a ha)
  have HA := hidden' (isNaN_ok a)
  have hz := eq_zero (x := a)
  cases ho : lbOk 11 52 a with
  | true =>
    have e : ilN a = upE 11 52 a + 52 := by unfold ilN; rw [if_pos ho]
    have HL := hidden' (ilogb_ok a ha ho)
    rw [e]
    have ho' := ho
    unfold lbOk at ho'
    simp only [Bool.or_eq_true, decide_eq_true_eq] at ho'
    have hz2 : (FloatKind.f64.format.order a 0 == some .eq) = false := by rw [hz]; simp; omega
    rw [show decide (upC 11 52 a = 3) = false by simp; omega] at HI
    rw [show decide (upC 11 52 a = 4) = false by simp; omega] at HA
    clear ho' ho hz e
    generalize upE 11 52 a + 52 = L at *
    go_enter Oajg.func137, Oajg.ntmps137
    go_wp2_with fail
    refine Calls.mono (HA.out _) ?_
    rintro _ w0 ⟨rfl, hw⟩
    subst w0
    go_wp2_with fail
    refine Calls.mono (HI.out _) ?_
    rintro _ w0 ⟨rfl, hw⟩
    subst w0
    go_wp2_with fail
    refine Calls.mono (HL.out _) ?_
    rintro _ w0 ⟨rfl, hw⟩
    subst w0
    go_wp2_with fail
    go_ret
    exact ⟨rfl, rfl⟩
  | false =>
    rcases lbOk_not ho with h0 | h3 | h4
    · have e : ilN a = -2147483648 := by unfold ilN; rw [ho, if_neg (by decide), if_pos h0]
      rw [e]
      have hz2 : (FloatKind.f64.format.order a 0 == some .eq) = true := by rw [hz]; simp [h0]
      clear ho hz e h0 HI HA
      go_enter Oajg.func137, Oajg.ntmps137
      go_wp2_with fail
      go_ret
      exact ⟨rfl, rfl⟩
    · have e : ilN a = 2147483647 := by unfold ilN; rw [ho, if_neg (by decide), if_neg (by omega)]
      rw [e]
      have hz2 : (FloatKind.f64.format.order a 0 == some .eq) = false := by rw [hz]; simp [h3]
      rw [show decide (upC 11 52 a = 3) = true by simp [h3]] at HI
      rw [show decide (upC 11 52 a = 4) = false by simp [h3]] at HA
      clear ho hz e h3
      go_enter Oajg.func137, Oajg.ntmps137
      go_wp2_with fail
      refine Calls.mono (HA.out _) ?_
      rintro _ w0 ⟨rfl, hw⟩
      subst w0
      go_wp2_with fail
      refine Calls.mono (HI.out _) ?_
      rintro _ w0 ⟨rfl, hw⟩
      subst w0
      go_wp2_with fail
      go_ret
      exact ⟨rfl, rfl⟩
    · have e : ilN a = 2147483647 := by unfold ilN; rw [ho, if_neg (by decide), if_neg (by omega)]
      rw [e]
      have hz2 : (FloatKind.f64.format.order a 0 == some .eq) = false := by rw [hz]; simp [h4]
      rw [show decide (upC 11 52 a = 4) = true by simp [h4]] at HA
      clear ho hz e h4 HI
      go_enter Oajg.func137, Oajg.ntmps137
      go_wp2_with fail
      refine Calls.mono (HA.out _) ?_
      rintro _ w0 ⟨rfl, hw⟩
      subst w0
      go_wp2_with fail
      go_ret
      exact ⟨rfl, rfl⟩
set_option maxRecDepth 100000 in
theorem nilogb_ok (a : Nat) (ha : a < 18446744073709551616) (w : World) : Calls Oajg.prog 86 #[.float .f64 a] w fun e w' => e = .returned (.int .i64 (ilN a)) ∧ w' = w := by
  have H := hidden' (Ilogb_ok a ha)
  generalize ilN a = R at *
  go_enter Oajg.func86, Oajg.ntmps86
  go_wp2_with fail
  refine Calls.mono (H.out _) ?_
  rintro _ w0 ⟨rfl, hw⟩
  subst w0
  go_wp2_with fail
  go_ret
  exact ⟨rfl, rfl⟩
set_option maxRecDepth 100000 in
theorem logB64_ok (a : Nat) (ha : a < 18446744073709551616) (w : World) : Calls Oajg.prog 38 #[.int .u64 (a : Int)] w fun e w' => e = .returned (.tuple #[.int .i64 (lbN 11 52 a), .bool (lbOk 11 52 a)]) ∧ w' = w := by
  have H1 := hidden' (from64_ok a)
  have H2 := hidden' (nilogb_ok a ha)
  cases ho : lbOk 11 52 a with
  | true =>
    have e1 : lbN 11 52 a = upE 11 52 a + 52 := by unfold lbN; rw [if_pos ho]; rfl
    have e2 : ilN a = upE 11 52 a + 52 := by unfold ilN; rw [if_pos ho]
    obtain ⟨v1, v2⟩ := v_expS f64ok ho
    rw [bias11] at v1 v2
    rw [e2] at H2
    rw [e1]
    have b1 : -2000 ≤ upE 11 52 a + 52 := by omega
    have b2 : upE 11 52 a + 52 ≤ 2000 := by omega
    clear ho e1 e2 v1 v2
    generalize upE 11 52 a + 52 = L at *
    have j1 : decide (L < -2000) = false := by simp; omega
    have j2 : decide (2000 < L) = false := by simp; omega
    go_enter Oajg.func38, Oajg.ntmps38
    go_wp2_with fail
    refine Calls.mono (H1.out _) ?_
    rintro _ w0 ⟨rfl, hw⟩
    subst w0
    go_wp2_with fail
    refine Calls.mono (H2.out _) ?_
    rintro _ w0 ⟨rfl, hw⟩
    subst w0
    go_wp2_with fail
    go_ret2
    exact ⟨rfl, rfl⟩
  | false =>
    have e1 : lbN 11 52 a = 0 := by unfold lbN; rw [ho, if_neg (by decide)]
    rw [e1]
    rcases lbOk_not ho with h0 | h3 | h4
    · have e2 : ilN a = -2147483648 := by unfold ilN; rw [ho, if_neg (by decide), if_pos h0]
      rw [e2] at H2
      clear ho e1 e2 h0
      go_enter Oajg.func38, Oajg.ntmps38
      go_wp2_with fail
      refine Calls.mono (H1.out _) ?_
      rintro _ w0 ⟨rfl, hw⟩
      subst w0
      go_wp2_with fail
      refine Calls.mono (H2.out _) ?_
      rintro _ w0 ⟨rfl, hw⟩
      subst w0
      go_wp2_with fail
      go_ret2
      exact ⟨rfl, rfl⟩
    all_goals
      have e2 : ilN a = 2147483647 := by unfold ilN; rw [ho, if_neg (by decide), if_neg (by omega)]
      rw [e2] at H2
      clear ho e1 e2
      go_enter Oajg.func38, Oajg.ntmps38
      go_wp2_with fail
      refine Calls.mono (H1.out _) ?_
      rintro _ w0 ⟨rfl, hw⟩
      subst w0
      go_wp2_with fail
      refine Calls.mono (H2.out _) ?_
      rintro _ w0 ⟨rfl, hw⟩
      subst w0
      go_wp2_with fail
      go_ret2
      exact ⟨rfl, rfl⟩

end Go.Proofs.Ygcoaj
