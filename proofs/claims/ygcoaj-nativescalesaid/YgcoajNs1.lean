/-
  WALKS: package math's floats by their bits; native.from64, bits64, put64 and their like.
-/
import Derived.Test.YgcoajNsP2
import Derived.Laws.Externs
set_option linter.unusedVariables false
set_option linter.unusedSimpArgs false
namespace Go.Proofs.Ygcoaj
open Go.RowKit

theorem hidden' {p : Prop} (h : p) : Hid p := h
theorem run138 (w : World) (n : Int) : Sem.run Oajg.prog (callFunc 138 #[.int .u64 n]) w = .ok (.value (.float .f64 n.toNat)) w := by
  rw [run_callFunc_extern (e := Extern.MathFloatBits.float64frombits) Oajg.func138 (by kernel_rfl) (by kernel_rfl) (by kernel_rfl) (by kernel_rfl)]
  rfl
theorem run178 (w : World) (b : Nat) : Sem.run Oajg.prog (callFunc 178 #[.float .f64 b]) w = .ok (.value (.int .u64 (b : Int))) w := by
  rw [run_callFunc_extern (e := Extern.MathFloatBits.float64bits) Oajg.func178 (by kernel_rfl) (by kernel_rfl) (by kernel_rfl) (by kernel_rfl)]
  rfl
theorem run140 (w : World) (n : Int) : Sem.run Oajg.prog (callFunc 140 #[.int .u32 n]) w = .ok (.value (.float .f32 n.toNat)) w := by
  rw [run_callFunc_extern (e := Extern.MathFloatBits.float32frombits) Oajg.func140 (by kernel_rfl) (by kernel_rfl) (by kernel_rfl) (by kernel_rfl)]
  rfl
theorem run181 (w : World) (b : Nat) : Sem.run Oajg.prog (callFunc 181 #[.float .f32 b]) w = .ok (.value (.int .u32 (b : Int))) w := by
  rw [run_callFunc_extern (e := Extern.MathFloatBits.float32bits) Oajg.func181 (by kernel_rfl) (by kernel_rfl) (by kernel_rfl) (by kernel_rfl)]
  rfl

set_option maxRecDepth 100000 in
theorem from64_ok (a : Nat) (w : World) : Calls Oajg.prog 87 #[.int .u64 (a : Int)] w fun e w' => e = .returned (.float .f64 a) ∧ w' = w := by
  have h := run138
  go_enter Oajg.func87, Oajg.ntmps87
  go_wp2_with fail
  go_ret
  exact ⟨rfl, rfl⟩
set_option maxRecDepth 100000 in
theorem from32_ok (a : Nat) (w : World) : Calls Oajg.prog 89 #[.int .u32 (a : Int)] w fun e w' => e = .returned (.float .f32 a) ∧ w' = w := by
  have h := run140
  go_enter Oajg.func89, Oajg.ntmps89
  go_wp2_with fail
  go_ret
  exact ⟨rfl, rfl⟩
set_option maxRecDepth 100000 in
theorem bits64_ok (a : Nat) (w : World) : Calls Oajg.prog 139 #[.float .f64 a] w fun e w' => e = .returned (.int .u64 (a : Int)) ∧ w' = w := by
  have h := run178
  go_enter Oajg.func139, Oajg.ntmps139
  go_wp2_with fail
  go_ret
  exact ⟨rfl, rfl⟩
set_option maxRecDepth 100000 in
theorem bits32_ok (a : Nat) (w : World) : Calls Oajg.prog 142 #[.float .f32 a] w fun e w' => e = .returned (.int .u32 (a : Int)) ∧ w' = w := by
  have h := run181
  go_enter Oajg.func142, Oajg.ntmps142
  go_wp2_with fail
  go_ret
  exact ⟨rfl, rfl⟩


theorem f64ok : FOk 11 52 := ⟨by decide, by decide, by decide, by decide⟩
theorem f32ok : FOk 8 23 := ⟨by decide, by decide, by decide, by decide⟩
theorem nan64 : nanN 11 52 = 9221120237041090560 := by decide
theorem nan32 : nanN 8 23 = 2143289344 := by decide
/-- a NaN made THE NaN -/
def p64 (a : Nat) : Nat := if upC 11 52 a = 4 then nanN 11 52 else a
def p32 (a : Nat) : Nat := if upC 8 23 a = 4 then nanN 8 23 else a
theorem self64 {a : Nat} (hc : upC 11 52 a ≠ 4) : (FloatKind.f64.format.order a a != some .eq) = false := by
  have := self_eq f64ok hc
  show (!(Ieee.Format.order ⟨11, 52⟩ a a == some .eq)) = false
  rw [this]; rfl
theorem self32 {a : Nat} (hc : upC 8 23 a ≠ 4) : (FloatKind.f32.format.order a a != some .eq) = false := by
  have := self_eq f32ok hc
  show (!(Ieee.Format.order ⟨8, 23⟩ a a == some .eq)) = false
  rw [this]; rfl
theorem nself64 {a : Nat} (hc : upC 11 52 a = 4) : (FloatKind.f64.format.order a a != some .eq) = true := by
  have := self_nan (b := a) f64ok hc
  show (!(Ieee.Format.order ⟨11, 52⟩ a a == some .eq)) = true
  rw [this]; rfl
theorem nself32 {a : Nat} (hc : upC 8 23 a = 4) : (FloatKind.f32.format.order a a != some .eq) = true := by
  have := self_nan (b := a) f32ok hc
  show (!(Ieee.Format.order ⟨8, 23⟩ a a == some .eq)) = true
  rw [this]; rfl

set_option maxRecDepth 100000 in
theorem put64_ok (a : Nat) (w : World) : Calls Oajg.prog 88 #[.float .f64 a] w fun e w' => e = .returned (.int .u64 (p64 a : Nat)) ∧ w' = w := by
  by_cases hc : upC 11 52 a = 4
  · have hp : p64 a = 9221120237041090560 := by unfold p64; rw [if_pos hc, nan64]
    rw [hp]
    have hn := nself64 hc
    clear hc hp
    go_enter Oajg.func88, Oajg.ntmps88
    go_wp2_with fail
    go_ret
    exact ⟨rfl, rfl⟩
  · have hp : p64 a = a := by unfold p64; rw [if_neg hc]
    rw [hp]
    have hn := self64 hc
    clear hc hp
    have H := hidden' (bits64_ok a)
    go_enter Oajg.func88, Oajg.ntmps88
    go_wp2_with fail
    refine Calls.mono (H.out _) ?_
    rintro _ w0 ⟨rfl, hw⟩
    subst w0
    go_wp2_with fail
    go_ret
    exact ⟨rfl, rfl⟩
set_option maxRecDepth 100000 in
theorem put32_ok (a : Nat) (w : World) : Calls Oajg.prog 91 #[.float .f32 a] w fun e w' => e = .returned (.int .u32 (p32 a : Nat)) ∧ w' = w := by
  by_cases hc : upC 8 23 a = 4
  · have hp : p32 a = 2143289344 := by unfold p32; rw [if_pos hc, nan32]
    rw [hp]
    have hn := nself32 hc
    clear hc hp
    go_enter Oajg.func91, Oajg.ntmps91
    go_wp2_with fail
    go_ret
    exact ⟨rfl, rfl⟩
  · have hp : p32 a = a := by unfold p32; rw [if_neg hc]
    rw [hp]
    have hn := self32 hc
    clear hc hp
    have H := hidden' (bits32_ok a)
    go_enter Oajg.func91, Oajg.ntmps91
    go_wp2_with fail
    refine Calls.mono (H.out _) ?_
    rintro _ w0 ⟨rfl, hw⟩
    subst w0
    go_wp2_with fail
    go_ret
    exact ⟨rfl, rfl⟩

/-! ### package math -/
set_option maxRecDepth 100000 in
theorem isNaN_ok (a : Nat) (w : World) : Calls Oajg.prog 175 #[.float .f64 a] w fun e w' => e = .returned (.bool (decide (upC 11 52 a = 4))) ∧ w' = w := by
  obtain ⟨B, hB⟩ : ∃ B, decide (upC 11 52 a = 4) = B := ⟨_, rfl⟩
  have hn : (FloatKind.f64.format.order a a != some .eq) = B := by
    rw [← hB]
    by_cases hc : upC 11 52 a = 4
    · rw [nself64 hc]; simp [hc]
    · rw [self64 hc]; simp [hc]
  rw [hB]
  clear hB
  go_enter Oajg.func175, Oajg.ntmps175
  go_wp2_with fail
  go_ret
  exact ⟨rfl, rfl⟩
set_option maxRecDepth 100000 in
theorem abs_ok (a : Nat) (ha : a < 18446744073709551616) (w : World) : Calls Oajg.prog 200 #[.float .f64 a] w fun e w' => e = .returned (.float .f64 (a % 9223372036854775808)) ∧ w' = w := by
  have h1 := run178
  have h2 := run138
  have k := abs_bits a ha
  generalize a % 9223372036854775808 = b at *
  go_enter Oajg.func200, Oajg.ntmps200
  go_wp2_with fail
  go_ret
  exact ⟨rfl, rfl⟩
theorem abs_parts (a : Nat) : fExp 11 52 (a % 9223372036854775808) = fExp 11 52 a ∧ fMan 52 (a % 9223372036854775808) = fMan 52 a ∧ fNeg 11 52 (a % 9223372036854775808) = false := by
  refine ⟨?_, ?_, ?_⟩
  · unfold fExp
    show a % 9223372036854775808 / 4503599627370496 % 2048 = a / 4503599627370496 % 2048
    omega
  · unfold fMan
    show a % 9223372036854775808 % 4503599627370496 = a % 4503599627370496
    omega
  · unfold fNeg
    rw [Nat.testBit_eq_decide_div_mod_eq]
    show decide (a % 9223372036854775808 / 9223372036854775808 % 2 = 1) = false
    have : a % 9223372036854775808 / 9223372036854775808 = 0 := Nat.div_eq_of_lt (Nat.mod_lt _ (by decide))
    rw [this]; rfl
theorem abs_class (a : Nat) : upC 11 52 (a % 9223372036854775808) = upC 11 52 a := by
  obtain ⟨h1, h2, _⟩ := abs_parts a
  unfold upC
  rw [h1, h2]
theorem abs_sgv (a : Nat) : sgv 11 52 (a % 9223372036854775808) = (sVal 11 52 a : Int) := by
  obtain ⟨h1, h2, h3⟩ := abs_parts a
  unfold sgv sVal
  rw [h1, h2, h3]; rfl
set_option maxRecDepth 100000 in
theorem isInf_ok (a : Nat) (ha : a < 18446744073709551616) (w : World) : Calls Oajg.prog 176 #[.float .f64 a, .int .i64 0] w fun e w' => e = .returned (.bool (decide (upC 11 52 a = 3))) ∧ w' = w := by
  have H := hidden' (abs_ok a ha)
  obtain ⟨B, hB⟩ : ∃ B, decide (upC 11 52 a = 3) = B := ⟨_, rfl⟩
  have hn : (FloatKind.f64.format.order (a % 9223372036854775808) 9218868437227405311 == some .gt) = B := by
    rw [← hB]
    show (Ieee.Format.order ⟨11, 52⟩ (a % 9223372036854775808) 9218868437227405311 == some .gt) = decide (upC 11 52 a = 3)
    have hc := abs_class a
    have hr := upC_range 11 52 a
    by_cases h4 : upC 11 52 a = 4
    · rw [self_nan f64ok (by rw [hc]; exact h4)]
      simp [h4]
    · by_cases h3 : upC 11 52 a = 3
      · have hf : (fNeg 11 52 (a % 9223372036854775808)) = false := (abs_parts a).2.2
        unfold Ieee.Format.order
        rw [read_inf f64ok (by rw [hc]; exact h3), hf, show Ieee.Format.read ⟨11, 52⟩ 9218868437227405311 = .number false 9007199254740991 971 from by decide]
        simp [h3]; rfl
      · rw [order_fin f64ok (by rw [hc]; omega) (by decide), some_beq, cmp_gt_iff]
        have hle : sgv 11 52 (a % 9223372036854775808) ≤ sgv 11 52 9218868437227405311 := by
          rw [abs_sgv]
          have hs : sgv 11 52 9218868437227405311 = ((sVal 11 52 9218868437227405311 : Nat) : Int) := by unfold sgv; rw [if_neg (by decide)]
          rw [hs]
          have hne : fExp 11 52 a ≠ 2047 := by
            intro he
            unfold upC at h3 h4
            have : (2 : Nat) ^ 11 - 1 = 2047 := by decide
            rw [this, if_pos he] at h3 h4
            split at h3 <;> omega
          have hm : mag 11 52 a ≤ mag 11 52 9218868437227405311 := by
            rw [mag_eq, mag_eq]
            have q1 : fExp 11 52 a < 2048 := Nat.mod_lt _ (by decide)
            have q2 : fMan 52 a < 4503599627370496 := Nat.mod_lt _ (by decide)
            have q3 : fExp 11 52 9218868437227405311 * 2 ^ 52 + fMan 52 9218868437227405311 = 9218868437227405311 := by decide
            rw [q3]
            show fExp 11 52 a * 4503599627370496 + fMan 52 a ≤ 9218868437227405311
            omega
          rcases Nat.lt_or_ge (mag 11 52 a) (mag 11 52 9218868437227405311) with hl | hl
          · have := sVal_mono hl; omega
          · have := (sVal_eq (E := 11) (M := 52) (x := a) (y := 9218868437227405311)).2 (by omega)
            omega
        have h5 : ¬ sgv 11 52 9218868437227405311 < sgv 11 52 (a % 9223372036854775808) := by omega
        simp [h5, h3]
  rw [hB]
  clear hB
  generalize a % 9223372036854775808 = b at *
  go_enter Oajg.func176, Oajg.ntmps176
  go_wp2_with fail
  refine Calls.mono (H.out _) ?_
  rintro _ w0 ⟨rfl, hw⟩
  subst w0
  go_wp2_with fail
  go_ret
  exact ⟨rfl, rfl⟩
set_option maxRecDepth 100000 in
theorem inf_up (w : World) : Calls Oajg.prog 203 #[.int .i64 1] w fun e w' => e = .returned (.float .f64 9218868437227405312) ∧ w' = w := by
  have h2 := run138
  go_enter Oajg.func203, Oajg.ntmps203
  go_wp2_with fail
  go_ret
  exact ⟨rfl, rfl⟩
set_option maxRecDepth 100000 in
theorem inf_down (w : World) : Calls Oajg.prog 203 #[.int .i64 (-1)] w fun e w' => e = .returned (.float .f64 18442240474082181120) ∧ w' = w := by
  have h2 := run138
  go_enter Oajg.func203, Oajg.ntmps203
  go_wp2_with fail
  go_ret
  exact ⟨rfl, rfl⟩


/-- a number that the format has is rounded to itself -/
theorem rf_exact {E M mo : Nat} {neg : Bool} {n d N D : Nat} (h : FOk E M) (hd : d ≠ 0) (hN1 : 2 ^ M ≤ N) (hN2 : N < 2 ^ (M + 1)) (hv : ∀ a b : Nat, (b : Int) - a = (D : Int) + (1 - (biasN E : Int)) - (M : Int) → n * 2 ^ a = d * N * 2 ^ b) (hx : D * 2 ^ M + N < infN E M) :
    rfN E M mo neg n d = sgnd E M neg (D * 2 ^ M + N) := by
  have hM := h.m52
  have hb1 := biasN_pos h.e2
  have hbE := bias_pow h.e2
  obtain ⟨x, hx0⟩ : ∃ x : Int, x = (D : Int) + (1 - (biasN E : Int)) - (M : Int) := ⟨_, rfl⟩
  have hNp := pp M
  have hN64 : N < 18446744073709551616 := by
    have : 2 ^ (M + 1) ≤ 2 ^ 53 := Nat.pow_le_pow_right (by decide) (by omega)
    omega
  have hbl : bitLen N = M + 1 := bitLen_uniq hN1 hN2
  have hDl : D + 3 ≤ 2 ^ E := by
    rcases Nat.lt_or_ge (D + 2) (2 ^ E) with hc | hc
    · omega
    · exfalso
      unfold infN at hx
      have h1 : (2 ^ E - 1) * 2 ^ M ≤ (D + 1) * 2 ^ M := Nat.mul_le_mul_right _ (by omega)
      rw [Nat.add_mul, Nat.one_mul] at h1
      omega
  rw [← (rp_rf (exp := x) (sig := N) (n := n) (d := d) (a0 := (-x).toNat) (b0 := x.toNat) h hN64 hd (by omega) (hv _ _ (by omega))).1]
  have eR : rpR x N = (D : Int) + (1 - (biasN E : Int)) := by unfold rpR; rw [hbl]; omega
  have eE : rpE E x N = (D : Int) + (1 - (biasN E : Int)) := by unfold rpE; rw [eR]; omega
  have eK : rpK E M x N = 63 - M := by unfold rpK; rw [eE, eR]; omega
  have eS : rpS N = N * 2 ^ (63 - M) := by unfold rpS; rw [hbl, show 64 - (M + 1) = 63 - M by omega]
  have hDb : (D : Int) + (1 - (biasN E : Int)) ≤ (biasN E : Int) := by
    rw [hbE] at hDl
    omega
  unfold rpN
  rw [if_neg (by omega), eE, if_neg (by omega), eK, eS, rd_exact (Nat.ne_of_gt (pp _)) (Nat.mul_mod_left _ _), Nat.mul_div_cancel _ (pp _)]
  unfold pkN
  rw [show ((D : Int) + (1 - (biasN E : Int)) - (1 - (biasN E : Int))).toNat = D by omega, if_neg (by omega)]

/-! ### normalize -/
def nrE (a : Nat) : Int := if upC 11 52 a = 1 then -52 else 0
def nrF (a : Nat) : Nat := (upE 11 52 a + 52 + 1023 - nrE a).toNat
def nrM (a : Nat) : Nat := upM 11 52 a - 4503599627370496
def nrX (a : Nat) : Nat := sgnd 11 52 (fNeg 11 52 a) (nrF a * 4503599627370496 + nrM a)
theorem bias11 : biasN 11 = 1023 := by decide
theorem bias8 : biasN 8 = 127 := by decide
theorem nr_sub {a : Nat} (h1 : upC 11 52 a = 1) : fExp 11 52 a = 0 ∧ fMan 52 a ≠ 0 := upC_one h1
theorem nr_facts {a : Nat} (ho : lbOk 11 52 a = true) : 1 ≤ nrF a ∧ nrF a ≤ 2046 ∧ nrM a < 4503599627370496 ∧ (nrF a : Int) - 1023 + nrE a = upE 11 52 a + 52 ∧ nrM a + 4503599627370496 = upM 11 52 a := by
  obtain ⟨g1, g2⟩ := upM_norm f64ok ho
  have g1' : 4503599627370496 ≤ upM 11 52 a := g1
  have g2' : upM 11 52 a < 9007199254740992 := g2
  have ho' := ho
  unfold lbOk at ho'
  simp only [Bool.or_eq_true, decide_eq_true_eq] at ho'
  have hb := bias11
  have hE : nrF a = (upE 11 52 a + 52 + 1023 - nrE a).toNat := rfl
  have hM : nrM a = upM 11 52 a - 4503599627370496 := rfl
  have hr : 1 ≤ upE 11 52 a + 52 + 1023 - nrE a ∧ upE 11 52 a + 52 + 1023 - nrE a ≤ 2046 := by
    rcases ho' with h1 | h2
    · obtain ⟨k1, k2⟩ := nr_sub h1
      have q := bitLen_pos k2
      have q2 : bitLen (fMan 52 a) ≤ 52 := bitLen_le_of_lt (Nat.mod_lt _ (by decide))
      unfold nrE upE
      rw [if_pos h1, if_pos h1, hb]
      omega
    · obtain ⟨k1, k2⟩ := upC_two h2
      have q : fExp 11 52 a < 2048 := Nat.mod_lt _ (by decide)
      have q2 : fExp 11 52 a ≠ 2047 := k2
      have n1 : ¬ upC 11 52 a = 1 := by omega
      unfold nrE upE
      rw [if_neg n1, if_neg n1, if_pos h2, hb]
      omega
  omega
theorem nr_norm {a : Nat} (ha : a < 18446744073709551616) (h2 : upC 11 52 a = 2) : nrX a = a := by
  obtain ⟨k1, k2⟩ := upC_two h2
  have hw := whole (E := 11) (M := 52) (a := a) ha
  have hb := bias11
  have q2 : fMan 52 a < 4503599627370496 := Nat.mod_lt _ (by decide)
  have n1 : ¬ upC 11 52 a = 1 := by omega
  have e1 : nrF a = fExp 11 52 a := by unfold nrF nrE upE; rw [if_neg n1, if_neg n1, if_pos h2, hb]; omega
  have e2 : nrM a = fMan 52 a := by unfold nrM upM; rw [if_neg n1, if_pos h2]; show fMan 52 a + 4503599627370496 - 4503599627370496 = _; omega
  unfold nrX
  rw [e1, e2]
  exact hw.symm
theorem lin1 (k z : Nat) (h : 1 ≤ k) : (k - 1) * 4503599627370496 + (z + 4503599627370496) = k * 4503599627370496 + z := by omega
theorem p52 : (2 : Nat) ^ 52 = 4503599627370496 := by decide
theorem nr_mul {a : Nat} (h1 : upC 11 52 a = 1) : FloatKind.f64.format.mul a 4841369599423283200 = some (nrX a) := by
  obtain ⟨k1, k2⟩ := nr_sub h1
  have ho : lbOk 11 52 a = true := by unfold lbOk; simp [h1]
  obtain ⟨f1, f2, f3, f4, f5⟩ := nr_facts ho
  have hb := bias11
  have hc : Ieee.Format.read ⟨11, 52⟩ 4841369599423283200 = .number false 4503599627370496 0 := by decide
  have hra := read_fin f64ok (Or.inr (Or.inl h1))
  rw [if_pos k1, k1, hb] at hra
  obtain ⟨pl, hpl⟩ : ∃ pl : Int, pl = 1 - ((1023 : Nat) : Int) - ((52 : Nat) : Int) + ((0 - 1 : Nat) : Int) := ⟨_, rfl⟩
  rw [← hpl] at hra
  have hpl2 : pl = -1074 := by rw [hpl]; rfl
  clear hpl
  have hD : (nrF a - 1) * 2 ^ 52 + upM 11 52 a = nrF a * 4503599627370496 + nrM a := by
    rw [← f5, p52]
    exact lin1 _ _ f1
  have hbq : bitLen (fMan 52 a) ≤ 52 := bitLen_le_of_lt (Nat.mod_lt _ (by decide))
  have hup : upM 11 52 a = fMan 52 a * 2 ^ (53 - bitLen (fMan 52 a)) := by unfold upM; rw [if_pos h1]
  have hue : upE 11 52 a = 1 - 1023 - 52 - ((53 - bitLen (fMan 52 a) : Nat) : Int) := by unfold upE; rw [if_pos h1, hb]; rfl
  have hE : nrE a = -52 := by unfold nrE; rw [if_pos h1]
  obtain ⟨g1, g2⟩ := upM_norm f64ok ho
  have hlt : nrF a * 4503599627370496 + nrM a < infN 11 52 := by
    have : infN 11 52 = 9218868437227405312 := by decide
    rw [this]
    generalize nrF a = k at f2 ⊢
    generalize nrM a = z at f3 ⊢
    omega
  show Ieee.Format.mul ⟨11, 52⟩ a 4841369599423283200 = some (nrX a)
  rw [mul_near hra hc, near_rf f64ok, Bool.xor_false]
  congr 1
  unfold nrX
  rw [← hD]
  refine rf_exact f64ok (Nat.ne_of_gt (pp _)) g1 g2 ?_ ?_
  · intro x y hxy
    rw [hb] at hxy
    rw [hup]
    have q1 : (pl + 0).toNat = 0 := by omega
    rw [q1]
    have e1 : fMan 52 a * 4503599627370496 * 2 ^ 0 * 2 ^ x = fMan 52 a * 2 ^ (52 + x) := by
      rw [Nat.pow_zero, Nat.mul_one, Nat.pow_add, p52, ← Nat.mul_assoc]
    have e2 : ∀ P : Nat, 2 ^ P * (fMan 52 a * 2 ^ (53 - bitLen (fMan 52 a))) * 2 ^ y = fMan 52 a * 2 ^ (P + (53 - bitLen (fMan 52 a)) + y) := by
      intro P
      rw [Nat.pow_add, Nat.pow_add]
      grind
    rw [e1, e2]
    have hxx : 52 + x = (-(pl + 0)).toNat + (53 - bitLen (fMan 52 a)) + y := by omega
    rw [hxx]
  · rw [hD]; exact hlt
theorem abs_small {a : Nat} (ho : lbOk 11 52 a = true) : (FloatKind.f64.format.order (a % 9223372036854775808) 4503599627370496 == some .lt) = decide (upC 11 52 a = 1) := by
  have ho' := ho
  unfold lbOk at ho'
  simp only [Bool.or_eq_true, decide_eq_true_eq] at ho'
  show (Ieee.Format.order ⟨11, 52⟩ (a % 9223372036854775808) 4503599627370496 == some .lt) = _
  rw [order_fin f64ok (by rw [abs_class]; omega) (by decide), some_beq, cmp_lt_iff, abs_sgv]
  have hs : sgv 11 52 4503599627370496 = 4503599627370496 := by decide
  rw [hs]
  have q2 : fMan 52 a < 4503599627370496 := Nat.mod_lt _ (by decide)
  rcases ho' with h1 | h2
  · obtain ⟨k1, k2⟩ := nr_sub h1
    have : sVal 11 52 a = fMan 52 a := by unfold sVal; rw [if_pos k1]
    have h5 : (sVal 11 52 a : Int) < 4503599627370496 := by omega
    simp [h5, h1]
  · obtain ⟨k1, k2⟩ := upC_two h2
    have hge := sVal_ge 11 52 a k1
    have : 2 ^ 52 ≤ 2 ^ (52 + fExp 11 52 a - 1) := Nat.pow_le_pow_right (by decide) (by omega)
    have h6 : ¬ (sVal 11 52 a : Int) < 4503599627370496 := by
      have h7 : (4503599627370496 : Nat) ≤ sVal 11 52 a := Nat.le_trans this hge
      omega
    have h8 : ¬ upC 11 52 a = 1 := by omega
    simp [h6, h8]
theorem run_fmul {x y r : Nat} (h : FloatKind.f64.format.mul x y = some r) (w : World) : Sem.run Oajg.prog (binOp .mul 119 (.float .f64 x) (.float .f64 y)) w = .ok (.float .f64 r) w := by
  simp only [binOp, Op.floatArith]
  simp [h, Sem.run]
set_option maxRecDepth 100000 in
theorem normalize_ok (a : Nat) (ha : a < 18446744073709551616) (ho : lbOk 11 52 a = true) (w : World) : Calls Oajg.prog 201 #[.float .f64 a] w fun e w' => e = .returned (.tuple #[.float .f64 (nrX a), .int .i64 (nrE a)]) ∧ w' = w := by
  have H := hidden' (abs_ok a ha)
  have hsm := abs_small ho
  by_cases h1 : upC 11 52 a = 1
  · have hE : nrE a = -52 := by unfold nrE; rw [if_pos h1]
    have hm := run_fmul (nr_mul h1)
    rw [hE]
    have hsm2 : (FloatKind.f64.format.order (a % 9223372036854775808) 4503599627370496 == some .lt) = true := by rw [hsm]; simp [h1]
    clear hsm hE ho h1
    generalize a % 9223372036854775808 = b at *
    generalize nrX a = X at *
    go_enter Oajg.func201, Oajg.ntmps201
    go_wp2_with fail
    refine Calls.mono (H.out _) ?_
    rintro _ w0 ⟨rfl, hw⟩
    subst w0
    go_wp2_with fail
    go_ret2
    exact ⟨rfl, rfl⟩
  · have hE : nrE a = 0 := by unfold nrE; rw [if_neg h1]
    have ho' := ho
    unfold lbOk at ho'
    simp only [Bool.or_eq_true, decide_eq_true_eq] at ho'
    rw [hE, nr_norm ha (by omega)]
    have hsm2 : (FloatKind.f64.format.order (a % 9223372036854775808) 4503599627370496 == some .lt) = false := by rw [hsm]; simp [h1]
    clear hsm hE ho h1 ho'
    generalize a % 9223372036854775808 = b at *
    go_enter Oajg.func201, Oajg.ntmps201
    go_wp2_with fail
    refine Calls.mono (H.out _) ?_
    rintro _ w0 ⟨rfl, hw⟩
    subst w0
    go_wp2_with fail
    go_ret2
    exact ⟨rfl, rfl⟩

/-! ### the exponent -/
theorem and_i64 (x : Nat) (hx : x < 9223372036854775808) : bits .and .i64 (x : Int) 2047 = ((x % 2048 : Nat) : Int) := by
  have e1 : (BitVec.ofInt 64 (x : Int) &&& BitVec.ofInt 64 ((2047 : Nat) : Int)).toNat = x &&& 2047 := by
    rw [BitVec.toNat_and, BitVec.toNat_ofInt, BitVec.toNat_ofInt]
    congr 1; omega
  show IntKind.i64.wrap ((BitVec.ofInt 64 (x : Int) &&& BitVec.ofInt 64 ((2047 : Nat) : Int)).toNat : Int) = _
  rw [e1, show x &&& 2047 = x % 2048 from Nat.and_two_pow_sub_one_eq_mod x 11, IntKind.wrap_i64]; omega
theorem and_u64 (x : Nat) (hx : x < 18446744073709551616) : bits .and .u64 (x : Int) 2047 = ((x % 2048 : Nat) : Int) := by
  have e := bits_and_u64_nat x 2047 hx (by decide)
  rw [show x &&& 2047 = x % 2048 from Nat.and_two_pow_sub_one_eq_mod x 11] at e
  exact e
theorem top_bits (neg : Bool) {e f : Nat} (he : e < 2048) (hf : f < 4503599627370496) : sgnd 11 52 neg (e * 4503599627370496 + f) / 4503599627370496 % 2048 = e ∧ sgnd 11 52 neg (e * 4503599627370496 + f) < 18446744073709551616 := by
  unfold sgnd
  have : (2 : Nat) ^ (11 + 52) = 9223372036854775808 := by decide
  rw [this]
  split <;> omega
set_option maxRecDepth 100000 in
theorem ilogb_ok (a : Nat) (ha : a < 18446744073709551616) (ho : lbOk 11 52 a = true) (w : World) : Calls Oajg.prog 177 #[.float .f64 a] w fun e w' => e = .returned (.int .i64 (upE 11 52 a + 52)) ∧ w' = w := by
  have HN := hidden' (normalize_ok a ha ho)
  obtain ⟨f1, f2, f3, f4, f5⟩ := nr_facts ho
  obtain ⟨t1, t2⟩ := top_bits (fNeg 11 52 a) (e := nrF a) (f := nrM a) (by omega) f3
  have hX : sgnd 11 52 (fNeg 11 52 a) (nrF a * 4503599627370496 + nrM a) = nrX a := rfl
  rw [hX] at t1 t2
  obtain ⟨Q, hQ⟩ : ∃ Q, Q = nrX a / 4503599627370496 := ⟨_, rfl⟩
  rw [← hQ] at t1
  have kQ : (nrX a : Int) / 4503599627370496 = (Q : Int) := by omega
  have kQ2 : (nrX a : Int) / 2 ^ 52 = (Q : Int) := kQ
  have kA := and_u64 Q (by omega)
  rw [t1] at kA
  have hnr := run178
  have hE2 : nrE a = 0 ∨ nrE a = -52 := by unfold nrE; split <;> omega
  rw [← f4]
  clear hX t1 t2 f4 f5 hQ ho
  generalize nrX a = X at *
  generalize nrF a = F at *
  generalize nrE a = e0 at *
  have e1 : (F : Int) - 1023 + e0 = (F : Int) - 1023 + e0 := rfl
  go_enter Oajg.func177, Oajg.ntmps177
  go_wp2_with fail
  refine Calls.mono (HN.out _) ?_
  rintro _ w0 ⟨rfl, hw⟩
  subst w0
  go_wp2_with fail
  go_ret
  exact ⟨rfl, rfl⟩

end Go.Proofs.Ygcoaj
