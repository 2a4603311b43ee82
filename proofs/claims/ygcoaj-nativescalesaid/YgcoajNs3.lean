/-
  WALKS: math.ldexp.
-/
import Derived.Test.YgcoajNs2
import Derived.Test.YgcoajSqP
set_option linter.unusedVariables false
set_option linter.unusedSimpArgs false
namespace Go.Proofs.Ygcoaj
open Go.RowKit

/-! ### ldexp -/
theorem one64 : Ieee.Format.read ⟨11, 52⟩ 4607182418800017408 = .number false 4503599627370496 (-52) := by decide
theorem tiny64 : Ieee.Format.read ⟨11, 52⟩ 4368491638549381120 = .number false 4503599627370496 (-105) := by decide
theorem sg0_inf (neg : Bool) : sgnd 11 52 neg (infN 11 52) = if neg then 18442240474082181120 else 9218868437227405312 := by cases neg <;> decide
def ldF (a : Nat) (n : Int) : Nat := rfN 11 52 0 (fNeg 11 52 a) (scNum 11 52 a n) (scDen 11 52 a n)
set_option maxRecDepth 100000 in
set_option maxHeartbeats 2000000 in
theorem ldexp_fin (a : Nat) (n : Int) (ha : a < 18446744073709551616) (ho : lbOk 11 52 a = true) (hn1 : -40000 ≤ n) (hn2 : n ≤ 40000) (w : World) :
    Calls Oajg.prog 180 #[.float .f64 a, .int .i64 n] w fun e w' => e = .returned (.float .f64 (ldF a n)) ∧ w' = w := by
  have ho' := ho
  unfold lbOk at ho'
  simp only [Bool.or_eq_true, decide_eq_true_eq] at ho'
  have HN := hidden' (normalize_ok a ha ho)
  have HI : Hid (∀ w, Calls Oajg.prog 176 #[.float .f64 a, .int .i64 0] w fun e w' => e = .returned (.bool false) ∧ w' = w) := fun w => by
    have := isInf_ok a ha w
    rw [show decide (upC 11 52 a = 3) = false by simp; omega] at this
    exact this
  have HA : Hid (∀ w, Calls Oajg.prog 175 #[.float .f64 a] w fun e w' => e = .returned (.bool false) ∧ w' = w) := fun w => by
    have := isNaN_ok a w
    rw [show decide (upC 11 52 a = 4) = false by simp; omega] at this
    exact this
  have hz : (FloatKind.f64.format.order a 0 == some .eq) = false := by rw [eq_zero]; simp; omega
  obtain ⟨f1, f2, f3, f4, f5⟩ := nr_facts ho
  obtain ⟨v1, v2⟩ := v_expS f64ok ho
  rw [bias11] at v1 v2
  obtain ⟨t1, t2⟩ := top_bits (fNeg 11 52 a) (e := nrF a) (f := nrM a) (by omega) f3
  have hX : sgnd 11 52 (fNeg 11 52 a) (nrF a * 4503599627370496 + nrM a) = nrX a := rfl
  have hC := clear_exp (fNeg 11 52 a) (e := nrF a) (f := nrM a) (by omega) f3
  obtain ⟨p1, p2, p3⟩ := parts (E := 11) (M := 52) (fNeg 11 52 a) (e := nrF a) (f := nrM a) (Nat.lt_of_le_of_lt f2 (by decide)) f3
  rw [p52, hX] at p1 p2 p3
  rw [hX] at t1 t2 hC
  have hXok : lbOk 11 52 (nrX a) = true := by
    have : upC 11 52 (nrX a) = 2 := by
      unfold upC
      rw [p1, if_neg (by show ¬ nrF a = 2047; omega), if_neg (by omega)]
    unfold lbOk; simp [this]
  have hlt := neg_lt hXok
  rw [p3] at hlt
  obtain ⟨Q, hQ⟩ : ∃ Q, Q = nrX a / 4503599627370496 := ⟨_, rfl⟩
  rw [← hQ] at t1
  have hQ2 : Q < 4096 := by omega
  have kQ : (nrX a : Int) / 4503599627370496 = (Q : Int) := by omega
  have kQ2 : (nrX a : Int) / 2 ^ 52 = (Q : Int) := kQ
  have kA := and_i64 Q (by omega)
  rw [t1] at kA
  have h178 := run178
  have h138 := run138
  have hE2 : nrE a = 0 ∨ nrE a = -52 := by unfold nrE; split <;> omega
  obtain ⟨EX, hEX⟩ : ∃ EX : Int, EX = n + (upE 11 52 a + 52) := ⟨_, rfl⟩
  have kE : n + nrE a + ((nrF a : Int) - 1023) = EX := by omega
  have hS64 : sgnd 11 52 (fNeg 11 52 a) (nrM a) < 18446744073709551616 := by
    have : (2 : Nat) ^ (11 + 52) = 9223372036854775808 := by decide
    unfold sgnd; rw [this]; split <;> omega
  have hTR := sc_true (n := n) f64ok ho
  have hSn := sc_ne (n := n) f64ok ho
  have hSd := scDen_ne 11 52 a n
  by_cases c1 : EX < -1075
  · have HF : Hid (ldF a n = sgnd 11 52 (fNeg 11 52 a) 0) := by
      show _ = _
      refine rf_zero f64ok hSn hSd ?_
      rw [hTR, bias11]
      unfold scK
      omega
    have HCS : Hid (∀ w, Calls Oajg.prog 202 #[.float .f64 0, .float .f64 (nrX a)] w fun e w' => e = .returned (.float .f64 (sgnd 11 52 (fNeg 11 52 a) 0)) ∧ w' = w) := fun w => by
      have := copysign_ok (nrX a) t2 w
      rw [p3] at this
      exact this
    rw [HF.out]
    clear ho' HF hlt hC hXok p1 p2 p3 hX t1 f5 f4 hQ hEX hS64 hTR hSn hSd ho v1 v2
    generalize sgnd 11 52 (fNeg 11 52 a) 0 = R0 at *
    generalize nrX a = X at *
    generalize nrF a = F at *
    generalize nrE a = e0 at *
    go_enter Oajg.func180, Oajg.ntmps180
    go_wp2_with fail
    refine Calls.mono (HI.out _) ?_
    rintro _ w0 ⟨rfl, hw⟩
    subst w0
    go_wp2_with fail
    refine Calls.mono (HA.out _) ?_
    rintro _ w0 ⟨rfl, hw⟩
    subst w0
    go_wp2_with fail
    refine Calls.mono (HN.out _) ?_
    rintro _ w0 ⟨rfl, hw⟩
    subst w0
    go_wp2_with fail
    refine Calls.mono (HCS.out _) ?_
    rintro _ w0 ⟨rfl, hw⟩
    subst w0
    go_wp2_with fail
    go_ret
    exact ⟨rfl, rfl⟩
  · by_cases c2 : 1023 < EX
    · have HF : Hid (ldF a n = sgnd 11 52 (fNeg 11 52 a) (infN 11 52)) := by
        show _ = _
        have := (rf_over (mo := 0) (neg := fNeg 11 52 a) f64ok hSn hSd (by rw [hTR, bias11]; unfold scK; omega)).1
        unfold ldF
        rw [this, ov0]
      have jd1 : decide (EX < -1075) = false := by simp; omega
      have jd2 : decide (1023 < EX) = true := by simp; omega
      clear c1 c2
      have HIF : Hid (∀ w, Calls Oajg.prog 203 #[.int .i64 (if fNeg 11 52 a then -1 else 1)] w fun e w' => e = .returned (.float .f64 (sgnd 11 52 (fNeg 11 52 a) (infN 11 52))) ∧ w' = w) := fun w => by
        rw [sg0_inf]
        cases fNeg 11 52 a
        · exact inf_up w
        · exact inf_down w
      rw [HF.out]
      generalize sgnd 11 52 (fNeg 11 52 a) (infN 11 52) = RI at *
      clear ho' HF hC hXok p1 p2 p3 hX t1 f5 f4 hQ hEX hS64 hTR hSn hSd ho v1 v2
      generalize nrX a = X at *
      generalize nrF a = F at *
      generalize nrE a = e0 at *
      cases hNG : fNeg 11 52 a with
      | true =>
        rw [hNG] at hlt HIF
        replace HIF : Hid (∀ w, Calls Oajg.prog 203 #[.int .i64 (-1)] w fun e w' => e = .returned (.float .f64 RI) ∧ w' = w) := HIF
        clear hNG
        go_enter Oajg.func180, Oajg.ntmps180
        go_wp2_with fail
        refine Calls.mono (HI.out _) ?_
        rintro _ w0 ⟨rfl, hw⟩
        subst w0
        go_wp2_with fail
        refine Calls.mono (HA.out _) ?_
        rintro _ w0 ⟨rfl, hw⟩
        subst w0
        go_wp2_with fail
        refine Calls.mono (HN.out _) ?_
        rintro _ w0 ⟨rfl, hw⟩
        subst w0
        go_wp2_with fail
        refine Calls.mono (HIF.out _) ?_
        rintro _ w0 ⟨rfl, hw⟩
        subst w0
        go_wp2_with fail
        go_ret
        exact ⟨rfl, rfl⟩
      | false =>
        rw [hNG] at hlt HIF
        replace HIF : Hid (∀ w, Calls Oajg.prog 203 #[.int .i64 1] w fun e w' => e = .returned (.float .f64 RI) ∧ w' = w) := HIF
        clear hNG
        go_enter Oajg.func180, Oajg.ntmps180
        go_wp2_with fail
        refine Calls.mono (HI.out _) ?_
        rintro _ w0 ⟨rfl, hw⟩
        subst w0
        go_wp2_with fail
        refine Calls.mono (HA.out _) ?_
        rintro _ w0 ⟨rfl, hw⟩
        subst w0
        go_wp2_with fail
        refine Calls.mono (HN.out _) ?_
        rintro _ w0 ⟨rfl, hw⟩
        subst w0
        go_wp2_with fail
        refine Calls.mono (HIF.out _) ?_
        rintro _ w0 ⟨rfl, hw⟩
        subst w0
        go_wp2_with fail
        go_ret
        exact ⟨rfl, rfl⟩
    · have hk : scK n = n := by unfold scK; omega
      by_cases c3 : EX < -1022
      · obtain ⟨e', he'⟩ : ∃ e' : Nat, (e' : Int) = EX + 53 + 1023 := ⟨(EX + 53 + 1023).toNat, by omega⟩
        have hO := put_exp (fNeg 11 52 a) (e := e') (f := nrM a) (by omega) f3
        have HM := run_fmul (scaled_mul (c := 4368491638549381120) (n := n) ho (show 1 ≤ e' by omega) (by omega) rfl tiny64 hk (by omega))
        have hY := (top_bits (fNeg 11 52 a) (e := e') (f := nrM a) (by omega) f3).2
        have kX1 : EX + 53 + 1023 = (e' : Int) := he'.symm
        have he64 : e' < 2048 := by omega
        have jd1 : decide (EX < -1075) = false := by simp; omega
        have jd2 : decide (1023 < EX) = false := by simp; omega
        have jd3 : decide (EX < -1022) = true := by simp; omega
        have hEb1 : -1075 ≤ EX := by omega
        have hEb2 : EX ≤ 1023 := by omega
        clear c1 c2 c3
        obtain ⟨Y, hYe⟩ : ∃ Y, Y = sgnd 11 52 (fNeg 11 52 a) (e' * 4503599627370496 + nrM a) := ⟨_, rfl⟩
        rw [← hYe] at hO HM hY
        clear hYe
        obtain ⟨SH, hSH⟩ : ∃ SH, SH = e' * 4503599627370496 := ⟨_, rfl⟩
        have kSH : (e' : Int) * 4503599627370496 = (SH : Int) := by omega
        have kSH2 : IntKind.u64.wrap ((e' : Int) * 4503599627370496) = (SH : Int) := wrap64' kSH (by omega)
        have kSH3 : IntKind.u64.wrap ((e' : Int) * 2 ^ 52) = (SH : Int) := kSH2
        rw [← hSH] at hO
        have hF : rfN 11 52 0 (fNeg 11 52 a) (scNum 11 52 a n) (scDen 11 52 a n) = ldF a n := rfl
        rw [hF] at HM
        clear ho' hF hlt hXok p1 p2 p3 hX t1 f5 f4 hQ hEX hTR hSn hSd ho v1 v2 hk hSH he'
        generalize sgnd 11 52 (fNeg 11 52 a) (nrM a) = S0 at *
        generalize ldF a n = LD at *
        generalize nrX a = X at *
        generalize nrF a = F at *
        generalize nrE a = e0 at *
        go_enter Oajg.func180, Oajg.ntmps180
        go_wp2_with fail
        refine Calls.mono (HI.out _) ?_
        rintro _ w0 ⟨rfl, hw⟩
        subst w0
        go_wp2_with fail
        refine Calls.mono (HA.out _) ?_
        rintro _ w0 ⟨rfl, hw⟩
        subst w0
        go_wp2_with fail
        refine Calls.mono (HN.out _) ?_
        rintro _ w0 ⟨rfl, hw⟩
        subst w0
        go_wp2_with fail
        go_ret
        exact ⟨rfl, rfl⟩
      · obtain ⟨e', he'⟩ : ∃ e' : Nat, (e' : Int) = EX + 1023 := ⟨(EX + 1023).toNat, by omega⟩
        have hO := put_exp (fNeg 11 52 a) (e := e') (f := nrM a) (by omega) f3
        have HM := run_fmul (scaled_mul (c := 4607182418800017408) (n := n) ho (show 1 ≤ e' by omega) (by omega) rfl one64 hk (by omega))
        have hY := (top_bits (fNeg 11 52 a) (e := e') (f := nrM a) (by omega) f3).2
        have kX1 : EX + 1023 = (e' : Int) := he'.symm
        have he64 : e' < 2048 := by omega
        have jd1 : decide (EX < -1075) = false := by simp; omega
        have jd2 : decide (1023 < EX) = false := by simp; omega
        have jd3 : decide (EX < -1022) = false := by simp; omega
        have hEb1 : -1075 ≤ EX := by omega
        have hEb2 : EX ≤ 1023 := by omega
        clear c1 c2 c3
        obtain ⟨Y, hYe⟩ : ∃ Y, Y = sgnd 11 52 (fNeg 11 52 a) (e' * 4503599627370496 + nrM a) := ⟨_, rfl⟩
        rw [← hYe] at hO HM hY
        clear hYe
        obtain ⟨SH, hSH⟩ : ∃ SH, SH = e' * 4503599627370496 := ⟨_, rfl⟩
        have kSH : (e' : Int) * 4503599627370496 = (SH : Int) := by omega
        have kSH2 : IntKind.u64.wrap ((e' : Int) * 4503599627370496) = (SH : Int) := wrap64' kSH (by omega)
        have kSH3 : IntKind.u64.wrap ((e' : Int) * 2 ^ 52) = (SH : Int) := kSH2
        rw [← hSH] at hO
        have hF : rfN 11 52 0 (fNeg 11 52 a) (scNum 11 52 a n) (scDen 11 52 a n) = ldF a n := rfl
        rw [hF] at HM
        clear ho' hF hlt hXok p1 p2 p3 hX t1 f5 f4 hQ hEX hTR hSn hSd ho v1 v2 hk hSH he'
        generalize sgnd 11 52 (fNeg 11 52 a) (nrM a) = S0 at *
        generalize ldF a n = LD at *
        generalize nrX a = X at *
        generalize nrF a = F at *
        generalize nrE a = e0 at *
        go_enter Oajg.func180, Oajg.ntmps180
        go_wp2_with fail
        refine Calls.mono (HI.out _) ?_
        rintro _ w0 ⟨rfl, hw⟩
        subst w0
        go_wp2_with fail
        refine Calls.mono (HA.out _) ?_
        rintro _ w0 ⟨rfl, hw⟩
        subst w0
        go_wp2_with fail
        refine Calls.mono (HN.out _) ?_
        rintro _ w0 ⟨rfl, hw⟩
        subst w0
        go_wp2_with fail
        go_ret
        exact ⟨rfl, rfl⟩

end Go.Proofs.Ygcoaj
