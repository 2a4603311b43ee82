/-
  WALKS: native.Widen (39), native.Narrow (41).
-/
import Derived.Test.YgcoajNs4
set_option linter.unusedVariables false
set_option linter.unusedSimpArgs false
namespace Go.Proofs.Ygcoaj
open Go.RowKit

theorem widen_num {b : Nat} {s : Bool} {m : Nat} {i : Int} (hr : Ieee.Format.read ⟨8, 23⟩ b = .number s m i) (hf : (Ieee.Format.read ⟨11, 52⟩ (Ieee.Format.nearest ⟨11, 52⟩ s m i)).isInfinity = false) (w : World) :
    Sem.run Oajg.prog (convert 122 119 (.float .f32 b)) w = .ok (.float .f64 (Ieee.Format.nearest ⟨11, 52⟩ s m i)) w := by
  have e : Conv.floatToFloat .f32 b .f64 = pure (.float .f64 (Ieee.Format.nearest ⟨11, 52⟩ s m i)) := by
    unfold Conv.floatToFloat
    rw [if_neg (by decide)]
    have h1 : FloatKind.f32.decode b = .number s m i := hr
    rw [h1]
    show (if (FloatKind.f64.decode (Ieee.Format.nearest ⟨11, 52⟩ s m i)).isInfinity then _ else _) = _
    have h2 : (FloatKind.f64.decode (Ieee.Format.nearest ⟨11, 52⟩ s m i)).isInfinity = false := hf
    rw [h2]
    rfl
  simp [convert, Oajg.underlying119, Oajg.underlying122, e, Sem.run]
theorem widen_inf {b : Nat} {s : Bool} (hr : Ieee.Format.read ⟨8, 23⟩ b = .infinity s) (w : World) :
    Sem.run Oajg.prog (convert 122 119 (.float .f32 b)) w = .ok (.float .f64 (sgnd 11 52 s (infN 11 52))) w := by
  have e : Conv.floatToFloat .f32 b .f64 = pure (.float .f64 (sgnd 11 52 s (infN 11 52))) := by
    unfold Conv.floatToFloat
    rw [if_neg (by decide)]
    have h1 : FloatKind.f32.decode b = .infinity s := hr
    rw [h1]
    have h2 : FloatKind.f64.encode (.infinity s) = sgnd 11 52 s (infN 11 52) := word_sgnd 11 52 s _
    show pure (Value.float .f64 (FloatKind.f64.encode (.infinity s))) = _
    rw [h2]
  simp [convert, Oajg.underlying119, Oajg.underlying122, e, Sem.run]
theorem widen_nan {b : Nat} {s : Bool} {t : Nat} (hr : Ieee.Format.read ⟨8, 23⟩ b = .nan s t) (w : World) :
    Sem.run Oajg.prog (convert 122 119 (.float .f32 b)) w = .ok (.float .f64 (Question.cut (.nanConv .f64 b) (w.tape w.drawn (.nanConv .f64 b)))) w.drew := by
  have e : Conv.floatToFloat .f32 b .f64 = (do pure (.float .f64 (← choose (.nanConv .f64 b)))) := by
    unfold Conv.floatToFloat
    rw [if_neg (by decide)]
    have h1 : FloatKind.f32.decode b = .nan s t := hr
    rw [h1]
  simp [convert, Oajg.underlying119, Oajg.underlying122, e, Sem.run, choose]
  intro h
  cases h
theorem narrow_num {b : Nat} {s : Bool} {m : Nat} {i : Int} (hr : Ieee.Format.read ⟨11, 52⟩ b = .number s m i) (hf : (Ieee.Format.read ⟨8, 23⟩ (Ieee.Format.nearest ⟨8, 23⟩ s m i)).isInfinity = false) (w : World) :
    Sem.run Oajg.prog (convert 119 122 (.float .f64 b)) w = .ok (.float .f32 (Ieee.Format.nearest ⟨8, 23⟩ s m i)) w := by
  have e : Conv.floatToFloat .f64 b .f32 = pure (.float .f32 (Ieee.Format.nearest ⟨8, 23⟩ s m i)) := by
    unfold Conv.floatToFloat
    rw [if_neg (by decide)]
    have h1 : FloatKind.f64.decode b = .number s m i := hr
    rw [h1]
    show (if (FloatKind.f32.decode (Ieee.Format.nearest ⟨8, 23⟩ s m i)).isInfinity then _ else _) = _
    have h2 : (FloatKind.f32.decode (Ieee.Format.nearest ⟨8, 23⟩ s m i)).isInfinity = false := hf
    rw [h2]
    rfl
  simp [convert, Oajg.underlying119, Oajg.underlying122, e, Sem.run]
theorem narrow_inf {b : Nat} {s : Bool} (hr : Ieee.Format.read ⟨11, 52⟩ b = .infinity s) (w : World) :
    Sem.run Oajg.prog (convert 119 122 (.float .f64 b)) w = .ok (.float .f32 (sgnd 8 23 s (infN 8 23))) w := by
  have e : Conv.floatToFloat .f64 b .f32 = pure (.float .f32 (sgnd 8 23 s (infN 8 23))) := by
    unfold Conv.floatToFloat
    rw [if_neg (by decide)]
    have h1 : FloatKind.f64.decode b = .infinity s := hr
    rw [h1]
    have h2 : FloatKind.f32.encode (.infinity s) = sgnd 8 23 s (infN 8 23) := word_sgnd 8 23 s _
    show pure (Value.float .f32 (FloatKind.f32.encode (.infinity s))) = _
    rw [h2]
  simp [convert, Oajg.underlying119, Oajg.underlying122, e, Sem.run]
theorem narrow_nan {b : Nat} {s : Bool} {t : Nat} (hr : Ieee.Format.read ⟨11, 52⟩ b = .nan s t) (w : World) :
    Sem.run Oajg.prog (convert 119 122 (.float .f64 b)) w = .ok (.float .f32 (Question.cut (.nanConv .f32 b) (w.tape w.drawn (.nanConv .f32 b)))) w.drew := by
  have e : Conv.floatToFloat .f64 b .f32 = (do pure (.float .f32 (← choose (.nanConv .f32 b)))) := by
    unfold Conv.floatToFloat
    rw [if_neg (by decide)]
    have h1 : FloatKind.f64.decode b = .nan s t := hr
    rw [h1]
  simp [convert, Oajg.underlying119, Oajg.underlying122, e, Sem.run, choose]
  intro h
  cases h

theorem cut64_nan (b t : Nat) : upC 11 52 (Question.cut (.nanConv .f64 b) t) = 4 := by
  show upC 11 52 ((t % 2) * 2 ^ 63 + 0x7ff0000000000000 + 1 + (t / 2) % (2 ^ 52 - 1)) = 4
  have h1 : (2 : Nat) ^ 63 = 9223372036854775808 := by decide
  have h2 : (2 : Nat) ^ 52 - 1 = 4503599627370495 := by decide
  rw [h1, h2]
  have hq : t / 2 % 4503599627370495 < 4503599627370495 := Nat.mod_lt _ (by decide)
  have hs : t % 2 < 2 := Nat.mod_lt _ (by decide)
  generalize t / 2 % 4503599627370495 = q at *
  generalize t % 2 = s at *
  have e1 : fExp 11 52 (s * 9223372036854775808 + 9218868437227405312 + 1 + q) = 2047 := by
    show (s * 9223372036854775808 + 9218868437227405312 + 1 + q) / 4503599627370496 % 2048 = 2047
    omega
  have e2 : fMan 52 (s * 9223372036854775808 + 9218868437227405312 + 1 + q) = 1 + q := by
    show (s * 9223372036854775808 + 9218868437227405312 + 1 + q) % 4503599627370496 = 1 + q
    omega
  show upC 11 52 (s * 9223372036854775808 + 9218868437227405312 + 1 + q) = 4
  unfold upC
  rw [e1, e2, if_pos (by decide), if_neg (by omega)]
theorem cut32_nan (b t : Nat) : upC 8 23 (Question.cut (.nanConv .f32 b) t) = 4 := by
  show upC 8 23 ((t % 2) * 2 ^ 31 + 0x7f800000 + 1 + (t / 2) % (2 ^ 23 - 1)) = 4
  have h1 : (2 : Nat) ^ 31 = 2147483648 := by decide
  have h2 : (2 : Nat) ^ 23 - 1 = 8388607 := by decide
  rw [h1, h2]
  have hq : t / 2 % 8388607 < 8388607 := Nat.mod_lt _ (by decide)
  have hs : t % 2 < 2 := Nat.mod_lt _ (by decide)
  generalize t / 2 % 8388607 = q at *
  generalize t % 2 = s at *
  have e1 : fExp 8 23 (s * 2147483648 + 2139095040 + 1 + q) = 255 := by
    show (s * 2147483648 + 2139095040 + 1 + q) / 8388608 % 256 = 255
    omega
  have e2 : fMan 23 (s * 2147483648 + 2139095040 + 1 + q) = 1 + q := by
    show (s * 2147483648 + 2139095040 + 1 + q) % 8388608 = 1 + q
    omega
  show upC 8 23 (s * 2147483648 + 2139095040 + 1 + q) = 4
  unfold upC
  rw [e1, e2, if_pos (by decide), if_neg (by omega)]

/-- Widen, plain -/
def wdN (b : Nat) : Nat := if upC 8 23 b = 4 then nanN 11 52 else if upC 8 23 b = 3 then sgnd 11 52 (fNeg 8 23 b) (infN 11 52) else rfN 11 52 0 (fNeg 8 23 b) (vNum 8 23 b) (vDen 8 23 b)
theorem near_val {E M E' M' b : Nat} (h : FOk E M) (h' : FOk E' M') (hc : upC E M b = 0 ∨ upC E M b = 1 ∨ upC E M b = 2) :
    ∃ m i, Ieee.Format.read ⟨E, M⟩ b = .number (fNeg E M b) m i ∧ Ieee.Format.nearest ⟨E', M'⟩ (fNeg E M b) m i = rfN E' M' 0 (fNeg E M b) (vNum E M b) (vDen E M b) := by
  refine ⟨_, _, read_fin h hc, ?_⟩
  rw [near_rf h']
  refine rf_ratio h' (Nat.ne_of_gt (pp _)) (vDen_ne _ _ _) ?_
  have hv := vNum_eq h hc
  have hb := biasN_pos h.e2
  have hm2 := h.m2
  obtain ⟨P, hP⟩ : ∃ P : Nat, (P : Int) = (biasN E : Int) + M - 1 := ⟨biasN E + M - 1, by omega⟩
  have hP2 : biasN E + M - 1 = P := by omega
  rw [hP2] at hv
  -- the value in units of the least place
  have hs : ∀ pl : Int, pl = 1 - (biasN E : Int) - (M : Int) + ((fExp E M b - 1 : Nat) : Int) → (if fExp E M b = 0 then fMan M b else 2 ^ M + fMan M b) * 2 ^ pl.toNat * 2 ^ P = sVal E M b * 2 ^ (-pl).toNat := by
    intro pl hpl
    unfold sVal
    by_cases h0 : fExp E M b = 0
    · rw [if_pos h0, if_pos h0, Nat.mul_assoc, ← Nat.pow_add]
      rw [h0] at hpl
      have : pl.toNat + P = (-pl).toNat := by omega
      rw [this]
    · rw [if_neg h0, if_neg h0, Nat.mul_assoc, ← Nat.pow_add, Nat.mul_assoc, ← Nat.pow_add, Nat.add_comm (2 ^ M)]
      have : pl.toNat + P = fExp E M b - 1 + (-pl).toNat := by omega
      rw [this]
  refine Nat.eq_of_mul_eq_mul_right (pp P) ?_
  rw [Nat.mul_right_comm, hs _ rfl]
  have e2 : vNum E M b * 2 ^ (-(1 - (biasN E : Int) - (M : Int) + ((fExp E M b - 1 : Nat) : Int))).toNat * 2 ^ P = vNum E M b * 2 ^ P * 2 ^ (-(1 - (biasN E : Int) - (M : Int) + ((fExp E M b - 1 : Nat) : Int))).toNat := Nat.mul_right_comm _ _ _
  rw [e2, hv]
  exact (Nat.mul_right_comm _ _ _).trans (by rw [Nat.mul_comm (sVal E M b)])
theorem read_noinf {E M x : Nat} (h : FOk E M) (hc : upC E M x ≠ 3) : (Ieee.Format.read ⟨E, M⟩ x).isInfinity = false := by
  have hr := upC_range E M x
  by_cases h4 : upC E M x = 4
  · obtain ⟨t, ht⟩ := read_nan h h4
    rw [ht]; rfl
  · rw [read_fin h (by omega)]; rfl

set_option maxRecDepth 100000 in
theorem widen_ok (b : Nat) (hfin : upC 8 23 b ≠ 3 → upC 8 23 b ≠ 4 → upC 11 52 (wdN b) ≠ 3 ∧ upC 11 52 (wdN b) ≠ 4) (w : World) : Calls Oajg.prog 39 #[.int .u32 (b : Int)] w fun e w' => e = .returned (.int .u64 (wdN b : Nat)) ∧ Below w.heap.size w w' := by
  have H1 := hidden' (from32_ok b)
  have hr := upC_range 8 23 b
  by_cases h4 : upC 8 23 b = 4
  · obtain ⟨t, ht⟩ := read_nan f32ok h4
    have hcv := widen_nan ht
    have H2 : Hid (∀ w t, Calls Oajg.prog 88 #[.float .f64 (Question.cut (.nanConv .f64 b) t)] w fun e w' => e = .returned (.int .u64 (wdN b : Nat)) ∧ w' = w) := fun w t => by
      have := put64_ok (Question.cut (.nanConv .f64 b) t) w
      have e : p64 (Question.cut (.nanConv .f64 b) t) = wdN b := by unfold p64 wdN; rw [if_pos (cut64_nan b t), if_pos h4]
      rw [e] at this
      exact this
    generalize wdN b = W at *
    generalize hcf : Question.cut (.nanConv .f64 b) = cf at *
    clear ht h4 hr hfin hcf
    go_enter Oajg.func39, Oajg.ntmps39
    go_wp2_with fail
    refine Calls.mono (H1.out _) ?_
    rintro _ w0 ⟨rfl, hw⟩
    subst w0
    go_wp2_with fail
    refine Calls.mono (H2.out _ _) ?_
    rintro _ w0 ⟨rfl, hw⟩
    subst w0
    go_wp2_with fail
    go_ret
    exact ⟨rfl, (Below.refl _ _).drew⟩
  · by_cases h3 : upC 8 23 b = 3
    · have hcv := widen_inf (read_inf f32ok h3)
      have H2 : Hid (∀ w, Calls Oajg.prog 88 #[.float .f64 (sgnd 11 52 (fNeg 8 23 b) (infN 11 52))] w fun e w' => e = .returned (.int .u64 (wdN b : Nat)) ∧ w' = w) := fun w => by
        have := put64_ok (sgnd 11 52 (fNeg 8 23 b) (infN 11 52)) w
        have e : p64 (sgnd 11 52 (fNeg 8 23 b) (infN 11 52)) = wdN b := by unfold p64 wdN; rw [if_neg (word_class f64ok (Nat.le_refl _)), if_neg h4, if_pos h3]
        rw [e] at this
        exact this
      generalize wdN b = W at *
      generalize sgnd 11 52 (fNeg 8 23 b) (infN 11 52) = R at *
      clear h4 h3 hr hfin
      go_enter Oajg.func39, Oajg.ntmps39
      go_wp2_with fail
      refine Calls.mono (H1.out _) ?_
      rintro _ w0 ⟨rfl, hw⟩
      subst w0
      go_wp2_with fail
      refine Calls.mono (H2.out _) ?_
      rintro _ w0 ⟨rfl, hw⟩
      subst w0
      go_wp2_with fail
      go_ret
      exact ⟨rfl, Below.refl _ _⟩
    · obtain ⟨g3, g4⟩ := hfin h3 h4
      obtain ⟨m, i, hrd, hne⟩ := near_val (b := b) f32ok f64ok (by omega)
      have hwd : wdN b = rfN 11 52 0 (fNeg 8 23 b) (vNum 8 23 b) (vDen 8 23 b) := by unfold wdN; rw [if_neg h4, if_neg h3]
      have hcv := widen_num hrd (by rw [hne, ← hwd]; exact read_noinf f64ok g3)
      rw [hne, ← hwd] at hcv
      have H2 : Hid (∀ w, Calls Oajg.prog 88 #[.float .f64 (wdN b)] w fun e w' => e = .returned (.int .u64 (wdN b : Nat)) ∧ w' = w) := fun w => by
        have := put64_ok (wdN b) w
        have e : p64 (wdN b) = wdN b := by unfold p64; rw [if_neg g4]
        rw [e] at this
        exact this
      generalize wdN b = W at *
      clear h4 h3 hr hfin g3 g4 hrd hne hwd
      go_enter Oajg.func39, Oajg.ntmps39
      go_wp2_with fail
      refine Calls.mono (H1.out _) ?_
      rintro _ w0 ⟨rfl, hw⟩
      subst w0
      go_wp2_with fail
      refine Calls.mono (H2.out _) ?_
      rintro _ w0 ⟨rfl, hw⟩
      subst w0
      go_wp2_with fail
      go_ret
      exact ⟨rfl, Below.refl _ _⟩

/-! ### Narrow -/
theorem tmag : upC 11 52 5183643170835005440 = 2 := by decide
theorem tneg : upC 11 52 14407015207689781248 = 2 := by decide
theorem tparts : fExp 11 52 5183643170835005440 = 1150 ∧ fMan 52 5183643170835005440 = 4503599358935040 ∧ fNeg 11 52 5183643170835005440 = false ∧ fExp 11 52 14407015207689781248 = 1150 ∧ fMan 52 14407015207689781248 = 4503599358935040 ∧ fNeg 11 52 14407015207689781248 = true := by decide
theorem tsg : sgv 11 52 14407015207689781248 = -sgv 11 52 5183643170835005440 := by
  obtain ⟨a1, a2, a3, a4, a5, a6⟩ := tparts
  have hs : sVal 11 52 14407015207689781248 = sVal 11 52 5183643170835005440 := by unfold sVal; rw [a1, a2, a4, a5]
  unfold sgv
  rw [a3, a6, hs]
  generalize sVal 11 52 5183643170835005440 = v
  simp
theorem run_neg (w : World) : Sem.run Oajg.prog (Op.unary UnOp.neg (Value.float FloatKind.f64 5183643170835005440)) w = .ok (.float .f64 14407015207689781248) w := by
  show Result.ok (Value.float .f64 (Op.negFloat .f64 5183643170835005440)) w = _
  have : Op.negFloat .f64 5183643170835005440 = 14407015207689781248 := by decide
  rw [this]
set_option maxRecDepth 100000 in
theorem narrow_nan' (a : Nat) (h4 : upC 11 52 a = 4) (w : World) : Calls Oajg.prog 41 #[.int .u64 (a : Int)] w fun e w' => e = .returned (.int .u32 (nanN 8 23 : Nat)) ∧ Below w.heap.size w w' := by
  have hng := run_neg
  have H1 := hidden' (from64_ok a)
  have HT : Hid (∀ w, Calls Oajg.prog 87 #[.int .u64 5183643170835005440] w fun e w' => e = .returned (.float .f64 5183643170835005440) ∧ w' = w) := from64_ok 5183643170835005440
  have hn1 : FloatKind.f64.format.order a 5183643170835005440 = none := self_nan f64ok h4
  have hn2 : FloatKind.f64.format.order a 14407015207689781248 = none := self_nan f64ok h4
  obtain ⟨t, ht⟩ := read_nan f64ok h4
  have hcv := narrow_nan ht
  have H2 : Hid (∀ w t, Calls Oajg.prog 91 #[.float .f32 (Question.cut (.nanConv .f32 a) t)] w fun e w' => e = .returned (.int .u32 (nanN 8 23 : Nat)) ∧ w' = w) := fun w t => by
    have := put32_ok (Question.cut (.nanConv .f32 a) t) w
    have e : p32 (Question.cut (.nanConv .f32 a) t) = nanN 8 23 := by unfold p32; rw [if_pos (cut32_nan a t)]
    rw [e] at this
    exact this
  generalize nanN 8 23 = W at *
  generalize hcf : Question.cut (.nanConv .f32 a) = cf at *
  clear ht h4 hcf
  go_enter Oajg.func41, Oajg.ntmps41
  go_wp2_with fail
  refine Calls.mono (H1.out _) ?_
  rintro _ w0 ⟨rfl, hw⟩
  subst w0
  go_wp2_with fail
  refine Calls.mono (HT.out _) ?_
  rintro _ w0 ⟨rfl, hw⟩
  subst w0
  go_wp2_with fail
  refine Calls.mono (H2.out _ _) ?_
  rintro _ w0 ⟨rfl, hw⟩
  subst w0
  go_wp2_with fail
  go_ret
  exact ⟨rfl, (Below.refl _ _).drew⟩

theorem ge_inf {a : Nat} (h3 : upC 11 52 a = 3) : ((FloatKind.f64.format.order a 5183643170835005440 == some .gt) || (FloatKind.f64.format.order a 5183643170835005440 == some .eq)) = !fNeg 11 52 a ∧ ((FloatKind.f64.format.order a 14407015207689781248 == some .lt) || (FloatKind.f64.format.order a 14407015207689781248 == some .eq)) = fNeg 11 52 a := by
  have hr := read_inf f64ok h3
  have k1 : FloatKind.f64.format.order a 5183643170835005440 = some (if fNeg 11 52 a then .lt else .gt) := by
    show Ieee.Format.order ⟨11, 52⟩ a 5183643170835005440 = _
    unfold Ieee.Format.order
    rw [hr, read_fin f64ok (Or.inr (Or.inr tmag))]
    rfl
  have k2 : FloatKind.f64.format.order a 14407015207689781248 = some (if fNeg 11 52 a then .lt else .gt) := by
    show Ieee.Format.order ⟨11, 52⟩ a 14407015207689781248 = _
    unfold Ieee.Format.order
    rw [hr, read_fin f64ok (Or.inr (Or.inr tneg))]
    rfl
  rw [k1, k2]
  cases fNeg 11 52 a <;> decide
theorem ge_fin {a : Nat} (hc : upC 11 52 a = 0 ∨ upC 11 52 a = 1 ∨ upC 11 52 a = 2) : ((FloatKind.f64.format.order a 5183643170835005440 == some .gt) || (FloatKind.f64.format.order a 5183643170835005440 == some .eq)) = decide (sgv 11 52 5183643170835005440 ≤ sgv 11 52 a) ∧ ((FloatKind.f64.format.order a 14407015207689781248 == some .lt) || (FloatKind.f64.format.order a 14407015207689781248 == some .eq)) = decide (sgv 11 52 a ≤ -sgv 11 52 5183643170835005440) := by
  have k1 : FloatKind.f64.format.order a 5183643170835005440 = some (compare (sgv 11 52 a) (sgv 11 52 5183643170835005440)) := order_fin f64ok hc (Or.inr (Or.inr tmag))
  have k2 : FloatKind.f64.format.order a 14407015207689781248 = some (compare (sgv 11 52 a) (sgv 11 52 14407015207689781248)) := order_fin f64ok hc (Or.inr (Or.inr tneg))
  rw [k1, k2, some_beq, some_beq, some_beq, some_beq, cmp_gt_iff, cmp_eq_iff, cmp_lt_iff, cmp_eq_iff, tsg]
  generalize sgv 11 52 a = x
  generalize sgv 11 52 5183643170835005440 = t
  constructor
  · rw [Bool.eq_iff_iff]; simp; omega
  · rw [Bool.eq_iff_iff]; simp; omega
theorem inf32 (neg : Bool) : sgnd 8 23 neg (infN 8 23) = if neg then 4286578688 else 2139095040 := by cases neg <;> decide
set_option maxRecDepth 100000 in
theorem narrow_big (a : Nat) (NG : Bool) (hge : ((FloatKind.f64.format.order a 5183643170835005440 == some .gt) || (FloatKind.f64.format.order a 5183643170835005440 == some .eq)) = !NG) (hle : NG = true → ((FloatKind.f64.format.order a 14407015207689781248 == some .lt) || (FloatKind.f64.format.order a 14407015207689781248 == some .eq)) = true) (w : World) : Calls Oajg.prog 41 #[.int .u64 (a : Int)] w fun e w' => e = .returned (.int .u32 (sgnd 8 23 NG (infN 8 23) : Nat)) ∧ Below w.heap.size w w' := by
  have hng := run_neg
  have H1 := hidden' (from64_ok a)
  have HT : Hid (∀ w, Calls Oajg.prog 87 #[.int .u64 5183643170835005440] w fun e w' => e = .returned (.float .f64 5183643170835005440) ∧ w' = w) := from64_ok 5183643170835005440
  rw [inf32]
  cases NG
  · replace hge : ((FloatKind.f64.format.order a 5183643170835005440 == some .gt) || (FloatKind.f64.format.order a 5183643170835005440 == some .eq)) = true := hge
    rw [if_neg (by decide)]
    clear hle
    go_enter Oajg.func41, Oajg.ntmps41
    go_wp2_with fail
    refine Calls.mono (H1.out _) ?_
    rintro _ w0 ⟨rfl, hw⟩
    subst w0
    go_wp2_with fail
    refine Calls.mono (HT.out _) ?_
    rintro _ w0 ⟨rfl, hw⟩
    subst w0
    go_wp2_with fail
    go_ret
    exact ⟨rfl, Below.refl _ _⟩
  · replace hge : ((FloatKind.f64.format.order a 5183643170835005440 == some .gt) || (FloatKind.f64.format.order a 5183643170835005440 == some .eq)) = false := hge
    replace hle := hle rfl
    rw [if_pos rfl]
    go_enter Oajg.func41, Oajg.ntmps41
    go_wp2_with fail
    refine Calls.mono (H1.out _) ?_
    rintro _ w0 ⟨rfl, hw⟩
    subst w0
    go_wp2_with fail
    refine Calls.mono (HT.out _) ?_
    rintro _ w0 ⟨rfl, hw⟩
    subst w0
    go_wp2_with fail
    go_ret
    exact ⟨rfl, Below.refl _ _⟩
set_option maxRecDepth 100000 in
theorem narrow_fin (a : Nat) (hc : upC 11 52 a = 0 ∨ upC 11 52 a = 1 ∨ upC 11 52 a = 2) (h1 : sgv 11 52 a < sgv 11 52 5183643170835005440) (h2 : -sgv 11 52 5183643170835005440 < sgv 11 52 a) (hr3 : upC 8 23 (rfN 8 23 0 (fNeg 11 52 a) (vNum 11 52 a) (vDen 11 52 a)) ≠ 3) (w : World) : Calls Oajg.prog 41 #[.int .u64 (a : Int)] w fun e w' => e = .returned (.int .u32 (rfN 8 23 0 (fNeg 11 52 a) (vNum 11 52 a) (vDen 11 52 a) : Nat)) ∧ Below w.heap.size w w' := by
  have hng := run_neg
  have H1 := hidden' (from64_ok a)
  have HT : Hid (∀ w, Calls Oajg.prog 87 #[.int .u64 5183643170835005440] w fun e w' => e = .returned (.float .f64 5183643170835005440) ∧ w' = w) := from64_ok 5183643170835005440
  obtain ⟨k1, k2⟩ := ge_fin hc
  have hge : ((FloatKind.f64.format.order a 5183643170835005440 == some .gt) || (FloatKind.f64.format.order a 5183643170835005440 == some .eq)) = false := by rw [k1]; simp; omega
  have hle : ((FloatKind.f64.format.order a 14407015207689781248 == some .lt) || (FloatKind.f64.format.order a 14407015207689781248 == some .eq)) = false := by rw [k2]; simp; omega
  obtain ⟨m, i, hrd, hne⟩ := near_val (b := a) f64ok f32ok hc
  have hcv := narrow_num hrd (by rw [hne]; exact read_noinf f32ok hr3)
  rw [hne] at hcv
  have H2 : Hid (∀ w, Calls Oajg.prog 91 #[.float .f32 (rfN 8 23 0 (fNeg 11 52 a) (vNum 11 52 a) (vDen 11 52 a))] w fun e w' => e = .returned (.int .u32 (rfN 8 23 0 (fNeg 11 52 a) (vNum 11 52 a) (vDen 11 52 a) : Nat)) ∧ w' = w) := fun w => by
    have := put32_ok (rfN 8 23 0 (fNeg 11 52 a) (vNum 11 52 a) (vDen 11 52 a)) w
    obtain ⟨x, hx, hw⟩ := rf_word (E := 8) (M := 23) (neg := fNeg 11 52 a) (n := vNum 11 52 a) (d := vDen 11 52 a)
    have e : p32 (rfN 8 23 0 (fNeg 11 52 a) (vNum 11 52 a) (vDen 11 52 a)) = rfN 8 23 0 (fNeg 11 52 a) (vNum 11 52 a) (vDen 11 52 a) := by unfold p32; rw [if_neg (by rw [hw]; exact word_class f32ok hx)]
    rw [e] at this
    exact this
  generalize rfN 8 23 0 (fNeg 11 52 a) (vNum 11 52 a) (vDen 11 52 a) = W at *
  clear hc h1 h2 hr3 k1 k2 hrd hne
  go_enter Oajg.func41, Oajg.ntmps41
  go_wp2_with fail
  refine Calls.mono (H1.out _) ?_
  rintro _ w0 ⟨rfl, hw⟩
  subst w0
  go_wp2_with fail
  refine Calls.mono (HT.out _) ?_
  rintro _ w0 ⟨rfl, hw⟩
  subst w0
  go_wp2_with fail
  refine Calls.mono (H2.out _) ?_
  rintro _ w0 ⟨rfl, hw⟩
  subst w0
  go_wp2_with fail
  go_ret
  exact ⟨rfl, Below.refl _ _⟩

end Go.Proofs.Ygcoaj
