/-
  WALKS: LogBFlags, LogB, ScaleB.
-/
import Derived.Test.YgcoajSc
set_option linter.unusedVariables false
set_option linter.unusedSimpArgs false
namespace Go.Proofs.Ygcoaj
open Go.RowKit

theorem sk_next {w W W' A : World} {b E M : Nat} {n : Nat} {u0 u1 u2 u3 u4 u5 : Value} (h : (W.cell? ⟨b, 0, none⟩ = some (.int .u8 (E : Int)) ∧ W.cell? ⟨b, 1, none⟩ = some (.int .u8 (M : Int)) ∧ b < W.heap.size ∧ Below w.heap.size w W) ∧ (W.cell? ⟨n, 0, none⟩ = some u0 ∧ W.cell? ⟨n, 1, none⟩ = some u1 ∧ W.cell? ⟨n, 2, none⟩ = some u2 ∧ W.cell? ⟨n, 3, none⟩ = some u3 ∧ W.cell? ⟨n, 4, none⟩ = some u4 ∧ W.cell? ⟨n, 5, none⟩ = some u5 ∧ (∀ o, W.frozen? ⟨n, o, none⟩ = false) ∧ n < W.heap.size) ∧ Kp A W) (hb : Below W.heap.size W W') : (W'.cell? ⟨b, 0, none⟩ = some (.int .u8 (E : Int)) ∧ W'.cell? ⟨b, 1, none⟩ = some (.int .u8 (M : Int)) ∧ b < W'.heap.size ∧ Below w.heap.size w W') ∧ (W'.cell? ⟨n, 0, none⟩ = some u0 ∧ W'.cell? ⟨n, 1, none⟩ = some u1 ∧ W'.cell? ⟨n, 2, none⟩ = some u2 ∧ W'.cell? ⟨n, 3, none⟩ = some u3 ∧ W'.cell? ⟨n, 4, none⟩ = some u4 ∧ W'.cell? ⟨n, 5, none⟩ = some u5 ∧ (∀ o, W'.frozen? ⟨n, o, none⟩ = false) ∧ n < W'.heap.size) ∧ Kp A W' := ⟨sf_next h.1 hb, bx6_next h.2.1 hb, h.2.2.trans (Kp.of hb)⟩
theorem sk_drew {w W A : World} {b E M : Nat} {n : Nat} {u0 u1 u2 u3 u4 u5 : Value} (h : (W.cell? ⟨b, 0, none⟩ = some (.int .u8 (E : Int)) ∧ W.cell? ⟨b, 1, none⟩ = some (.int .u8 (M : Int)) ∧ b < W.heap.size ∧ Below w.heap.size w W) ∧ (W.cell? ⟨n, 0, none⟩ = some u0 ∧ W.cell? ⟨n, 1, none⟩ = some u1 ∧ W.cell? ⟨n, 2, none⟩ = some u2 ∧ W.cell? ⟨n, 3, none⟩ = some u3 ∧ W.cell? ⟨n, 4, none⟩ = some u4 ∧ W.cell? ⟨n, 5, none⟩ = some u5 ∧ (∀ o, W.frozen? ⟨n, o, none⟩ = false) ∧ n < W.heap.size) ∧ Kp A W) : (W.drew.cell? ⟨b, 0, none⟩ = some (.int .u8 (E : Int)) ∧ W.drew.cell? ⟨b, 1, none⟩ = some (.int .u8 (M : Int)) ∧ b < W.drew.heap.size ∧ Below w.heap.size w W.drew) ∧ (W.drew.cell? ⟨n, 0, none⟩ = some u0 ∧ W.drew.cell? ⟨n, 1, none⟩ = some u1 ∧ W.drew.cell? ⟨n, 2, none⟩ = some u2 ∧ W.drew.cell? ⟨n, 3, none⟩ = some u3 ∧ W.drew.cell? ⟨n, 4, none⟩ = some u4 ∧ W.drew.cell? ⟨n, 5, none⟩ = some u5 ∧ (∀ o, W.drew.frozen? ⟨n, o, none⟩ = false) ∧ n < W.drew.heap.size) ∧ Kp A W.drew := ⟨sf_drew h.1, bx6_drew h.2.1, h.2.2.drew⟩

/-! ### soft.LogBFlags -/
set_option maxRecDepth 100000 in
set_option maxHeartbeats 1000000 in
theorem logFlagsS_not (E M : Nat) (h : okB E M = false) (a : Nat) (w : World) :
    Calls Oajg.prog 33 #[.agg #[.int .u8 (E : Int), .int .u8 (M : Int)], .int .u64 (a : Int)] w fun e w' => e = .returned (.tuple #[.int .i64 0, .bool false, .int .u8 0]) ∧ Below w.heap.size w w' := by
  have hF := sf_box w E M
  have HO : Hid (∀ w, Calls Oajg.prog 17 #[.agg #[.int .u8 (E : Int), .int .u8 (M : Int)]] w fun e w' => e = .returned (.bool false) ∧ Below w.heap.size w w') := ok_not h
  have HU : Hid (∀ w, Calls Oajg.prog 74 #[.agg #[.int .u8 (E : Int), .int .u8 (M : Int)], .int .u64 (a : Int)] w fun e w' => e = .returned (.agg #[.bool false, .int .i8 0, .int .i16 0, .int .u64 0]) ∧ Below w.heap.size w w') := unpack_not E M h a
  clear h
  go_enter Oajg.func33, Oajg.ntmps33
  go_wp2_with fail
  refine Calls.mono (HU.out _) ?_
  rintro _ w1 ⟨rfl, hb⟩
  replace hF := sf_next hF hb
  have hG := sg4_made 107 hF (.bool false) (.int .i8 0) (.int .i16 0) (.int .u64 0)
  clear hb hF
  go_wp2_with fail
  refine Calls.mono (HO.out _) ?_
  rintro _ w2 ⟨rfl, hb⟩
  replace hG := sg4_next hG hb
  clear hb
  go_wp2_with fail
  go_ret3
  exact ⟨rfl, hG.1.2.2.2⟩

set_option maxRecDepth 100000 in
set_option maxHeartbeats 1000000 in
theorem logFlagsS_ok (E M : Nat) (h : FOk E M) (a : Nat) (ha : a < 18446744073709551616) (w : World) :
    Calls Oajg.prog 33 #[.agg #[.int .u8 (E : Int), .int .u8 (M : Int)], .int .u64 (a : Int)] w fun e w' => e = .returned (.tuple #[.int .i64 (lbN E M a), .bool (lbOk E M a), .int .u8 (lbF E M a)]) ∧ Below w.heap.size w w' := by
  have hF := sf_box w E M
  have HO : Hid (∀ w, Calls Oajg.prog 17 #[.agg #[.int .u8 (E : Int), .int .u8 (M : Int)]] w fun e w' => e = .returned (.bool true) ∧ Below w.heap.size w w') := ok_yes h
  have HU : Hid (∀ w, Calls Oajg.prog 74 #[.agg #[.int .u8 (E : Int), .int .u8 (M : Int)], .int .u64 (a : Int)] w fun e w' => e = .returned (.agg #[.bool (upN E M a), .int .i8 (upC E M a), .int .i16 (upE E M a), .int .u64 (upM E M a : Nat)]) ∧ Below w.heap.size w w') := unpack_ok E M h a ha
  have hue := upE_range h a
  obtain ⟨hue1, hue2⟩ := hue
  have hM := h.m52
  cases ho : lbOk E M a with
  | false =>
    have hz := upM_zero ho
    have HR : Hid (lbN E M a = 0 ∧ lbF E M a = 1) := ⟨by unfold lbN; rw [ho]; rfl, by unfold lbF; rw [ho]; rfl⟩
    rw [HR.out.1, HR.out.2]
    have jz : ((upM E M a : Int) == 0) = true := by simp [hz]
    clear hz ho HR h
    generalize upN E M a = NG at *
    generalize upC E M a = C at *
    generalize upE E M a = VE at *
    generalize upM E M a = VM at *
    go_enter Oajg.func33, Oajg.ntmps33
    go_wp2_with fail
    refine Calls.mono (HU.out _) ?_
    rintro _ w1 ⟨rfl, hb⟩
    replace hF := sf_next hF hb
    have hG := sg4_made 107 hF (.bool NG) (.int .i8 C) (.int .i16 VE) (.int .u64 (VM : Int))
    clear hb hF
    go_wp2_with fail
    refine Calls.mono (HO.out _) ?_
    rintro _ w2 ⟨rfl, hb⟩
    replace hG := sg4_next hG hb
    clear hb
    go_wp2_with fail
    go_ret3
    exact ⟨rfl, hG.1.2.2.2⟩
  | true =>
    have hz := (upM_norm h ho).1
    have hpp := pp M
    have HR : Hid (lbN E M a = upE E M a + (M : Int) ∧ lbF E M a = 0) := ⟨by unfold lbN; rw [ho]; rfl, by unfold lbF; rw [ho]; rfl⟩
    rw [HR.out.1, HR.out.2]
    have jz : ((upM E M a : Int) == 0) = false := by simp; omega
    clear hz ho HR h hpp
    generalize upN E M a = NG at *
    generalize upC E M a = C at *
    generalize upE E M a = VE at *
    generalize upM E M a = VM at *
    go_enter Oajg.func33, Oajg.ntmps33
    go_wp2_with fail
    refine Calls.mono (HU.out _) ?_
    rintro _ w1 ⟨rfl, hb⟩
    replace hF := sf_next hF hb
    have hG := sg4_made 107 hF (.bool NG) (.int .i8 C) (.int .i16 VE) (.int .u64 (VM : Int))
    clear hb hF
    go_wp2_with fail
    refine Calls.mono (HO.out _) ?_
    rintro _ w2 ⟨rfl, hb⟩
    replace hG := sg4_next hG hb
    clear hb
    go_wp2_with fail
    go_ret3
    exact ⟨rfl, hG.1.2.2.2⟩

/-! ### exact.LogBFlags -/
set_option maxRecDepth 100000 in
set_option maxHeartbeats 1000000 in
theorem logFlagsX_not (E M : Nat) (h : okB E M = false) (a : Nat) (w : World) :
    Calls Oajg.prog 19 #[.agg #[.int .u8 (E : Int), .int .u8 (M : Int)], .int .u64 (a : Int)] w fun e w' => e = .returned (.tuple #[.int .i64 0, .bool false, .int .u8 0]) ∧ Below w.heap.size w w' := by
  have hF := sf_box w E M
  have HO : Hid (∀ w, Calls Oajg.prog 17 #[.agg #[.int .u8 (E : Int), .int .u8 (M : Int)]] w fun e w' => e = .returned (.bool false) ∧ Below w.heap.size w w') := ok_not h
  clear h
  go_enter Oajg.func19, Oajg.ntmps19
  go_wp2_with fail
  refine Calls.mono (HO.out _) ?_
  rintro _ w2 ⟨rfl, hb⟩
  replace hF := sf_next hF hb
  clear hb
  go_wp2_with fail
  go_ret3
  exact ⟨rfl, hF.2.2.2⟩

set_option maxRecDepth 100000 in
set_option maxHeartbeats 2000000 in
theorem logFlagsX_ok (E M : Nat) (h : FOk E M) (a : Nat) (ha : a < 18446744073709551616) (w : World) :
    Calls Oajg.prog 19 #[.agg #[.int .u8 (E : Int), .int .u8 (M : Int)], .int .u64 (a : Int)] w fun e w' => e = .returned (.tuple #[.int .i64 (lbN E M a), .bool (lbOk E M a), .int .u8 (lbF E M a)]) ∧ Below w.heap.size w w' := by
  have hF := sf_box w E M
  have HO : Hid (∀ w, Calls Oajg.prog 17 #[.agg #[.int .u8 (E : Int), .int .u8 (M : Int)]] w fun e w' => e = .returned (.bool true) ∧ Below w.heap.size w w') := ok_yes h
  have HU : Hid (∀ w, Calls Oajg.prog 63 #[.agg #[.int .u8 (E : Int), .int .u8 (M : Int)], .int .u64 (a : Int)] w fun e w' => ∃ a1 k1 c1 a2 k2 c2, e = .returned (.agg #[.int .u64 ((a % 2 ^ (E + M + 1) : Nat) : Int), .bool (fNeg E M a), .int .i8 (upC E M a), .bool (vN E M a), .slice a1 k1 c1, .slice a2 k2 c2]) ∧ NatIs 2050 w' (.slice a1 k1 c1) (vNum E M a) ∧ NatIs 2050 w' (.slice a2 k2 c2) (vDen E M a) ∧ Below w.heap.size w w') := opened E M h a ha
  have hnb := lgD_small (a := a) h
  have hC := upC_range E M a
  cases ho : lbOk E M a with
  | false =>
    have HR : Hid (lbN E M a = 0 ∧ lbF E M a = 1) := ⟨by unfold lbN; rw [ho]; rfl, by unfold lbF; rw [ho]; rfl⟩
    rw [HR.out.1, HR.out.2]
    unfold lbOk at ho
    simp only [Bool.or_eq_false_iff, decide_eq_false_iff_not] at ho
    have j1 : (upC E M a != 1) = true := bne_iff_ne.2 ho.1
    have j2 : (upC E M a != 2) = true := bne_iff_ne.2 ho.2
    clear ho HR h hnb hC
    generalize vNum E M a = NUM at *
    generalize vDen E M a = DEN at *
    generalize upC E M a = C at *
    generalize vN E M a = VN at *
    generalize (a % 2 ^ (E + M + 1)) = XX at *
    generalize fNeg E M a = NG at *
    go_enter Oajg.func19, Oajg.ntmps19
    go_wp2_with fail
    refine Calls.mono (HO.out _) ?_
    rintro _ w1 ⟨rfl, hb⟩
    replace hF := sf_next hF hb
    clear hb
    go_wp2_with fail
    refine Calls.mono (HU.out _) ?_
    rintro _ w3 ⟨a1, k1, c1, a2, k2, c2, rfl, hN1, hN2, hb⟩
    replace hF := sf_next hF hb
    have hG := sg6_made 98 hF (.int .u64 (XX : Int)) (.bool NG) (.int .i8 C) (.bool VN) (.slice a1 k1 c1) (.slice a2 k2 c2)
    clear hb hF hN1 hN2
    go_wp2_with fail
    go_ret3
    exact ⟨rfl, hG.1.2.2.2⟩
  | true =>
    have hl := lb_law h ho
    have HR : Hid (lbN E M a = upE E M a + (M : Int) ∧ lbF E M a = 0) := ⟨by unfold lbN; rw [ho]; rfl, by unfold lbF; rw [ho]; rfl⟩
    rw [HR.out.1, HR.out.2, ← hl]
    unfold lbOk at ho
    simp only [Bool.or_eq_true, decide_eq_true_eq] at ho
    have j12 : (upC E M a != 1) = false ∨ ((upC E M a != 1) = true ∧ (upC E M a != 2) = false) := by
      rcases ho with h | h <;> rw [h] <;> decide
    clear ho HR hl h hC
    obtain ⟨LO, hLO⟩ : ∃ LO, LO = lgD (vNum E M a) (vDen E M a) - 1 := ⟨_, rfl⟩
    obtain ⟨RES, HRES⟩ : ∃ RES, Hid (lg2 (vNum E M a) (vDen E M a) LO (LO + 1) = RES) := ⟨_, rfl⟩
    have e1 : lg2 (vNum E M a) (vDen E M a) (lgD (vNum E M a) (vDen E M a) - 1) (lgD (vNum E M a) (vDen E M a)) = RES := by
      rw [← HRES.out, ← hLO]; congr 1; omega
    rw [e1]
    clear e1
    have hLOb : -5001 ≤ LO ∧ LO ≤ 4999 := by omega
    have HLG : Hid (∀ W a1 k1 c1 a2 k2 c2, NatIs 2050 W (.slice a1 k1 c1) (vNum E M a) → NatIs 2050 W (.slice a2 k2 c2) (vDen E M a) → Calls Oajg.prog 69 #[.slice a1 k1 c1, .slice a2 k2 c2, .int .i64 LO, .int .i64 (LO + 1)] W fun e w' => e = .returned (.int .i64 RES) ∧ Below W.heap.size W w') := fun W a1 k1 c1 a2 k2 c2 h1 h2 => by
      have := log2_ok 2050 (vNum E M a) (vDen E M a) a1 a2 k1 c1 k2 c2 LO (LO + 1) W h1 h2 (by decide) (Or.inl (by omega))
      rw [HRES.out] at this
      exact this
    have kLO : IntKind.i64.wrap (IntKind.i64.wrap (((bitLen (vNum E M a) : Nat) : Int) - ((bitLen (vDen E M a) : Nat) : Int)) - 1) = LO := by
      have e2 : ((bitLen (vNum E M a) : Nat) : Int) - ((bitLen (vDen E M a) : Nat) : Int) = LO + 1 := by rw [hLO]; unfold lgD; omega
      rw [e2, show IntKind.i64.wrap (LO + 1) = LO + 1 from by rw [IntKind.wrap_i64]; omega, show LO + 1 - 1 = LO from by omega, IntKind.wrap_i64]; omega
    obtain ⟨hLO1, hLO2⟩ := hLOb
    have HBL : Hid (∀ W ad k c x, NatIs 2050 W (.slice ad k c) x → Calls Oajg.prog 68 #[.slice ad k c] W fun e w' => e = .returned (.int .i64 (bitLen x : Nat)) ∧ Below W.heap.size W w') := fun W ad k c x hx => bitLen_ok 2050 _ x W hx (by decide)
    clear hLO hnb HRES
    generalize vNum E M a = NUM at *
    generalize vDen E M a = DEN at *
    generalize upC E M a = C at *
    generalize vN E M a = VN at *
    generalize (a % 2 ^ (E + M + 1)) = XX at *
    generalize fNeg E M a = NG at *
    rcases j12 with j1 | ⟨j1, j2⟩
    all_goals
      go_enter Oajg.func19, Oajg.ntmps19
      go_wp2_with fail
      refine Calls.mono (HO.out _) ?_
      rintro _ w1 ⟨rfl, hb⟩
      replace hF := sf_next hF hb
      clear hb
      go_wp2_with fail
      refine Calls.mono (HU.out _) ?_
      rintro _ w3 ⟨a1, k1, c1, a2, k2, c2, rfl, hN1, hN2, hb⟩
      replace hF := sf_next hF hb
      have hG0 := sg6_made 98 hF (.int .u64 (XX : Int)) (.bool NG) (.int .i8 C) (.bool VN) (.slice a1 k1 c1) (.slice a2 k2 c2)
      have HN1 : Hid (NatIs 2050 (w3.alloc (.cells #[.int .u64 (XX : Int), .bool NG, .int .i8 C, .bool VN, .slice a1 k1 c1, .slice a2 k2 c2] 98)) (.slice a1 k1 c1) NUM) := hN1.kept ((Below.refl _ _).alloc (Nat.le_refl _) _)
      have HN2 : Hid (NatIs 2050 (w3.alloc (.cells #[.int .u64 (XX : Int), .bool NG, .int .i8 C, .bool VN, .slice a1 k1 c1, .slice a2 k2 c2] 98)) (.slice a2 k2 c2) DEN) := hN2.kept ((Below.refl _ _).alloc (Nat.le_refl _) _)
      have hG : ((w3.alloc (.cells #[.int .u64 (XX : Int), .bool NG, .int .i8 C, .bool VN, .slice a1 k1 c1, .slice a2 k2 c2] 98)).cell? ⟨w.heap.size, 0, none⟩ = some (.int .u8 (E : Int)) ∧ (w3.alloc (.cells #[.int .u64 (XX : Int), .bool NG, .int .i8 C, .bool VN, .slice a1 k1 c1, .slice a2 k2 c2] 98)).cell? ⟨w.heap.size, 1, none⟩ = some (.int .u8 (M : Int)) ∧ w.heap.size < (w3.alloc (.cells #[.int .u64 (XX : Int), .bool NG, .int .i8 C, .bool VN, .slice a1 k1 c1, .slice a2 k2 c2] 98)).heap.size ∧ Below w.heap.size w (w3.alloc (.cells #[.int .u64 (XX : Int), .bool NG, .int .i8 C, .bool VN, .slice a1 k1 c1, .slice a2 k2 c2] 98))) ∧ ((w3.alloc (.cells #[.int .u64 (XX : Int), .bool NG, .int .i8 C, .bool VN, .slice a1 k1 c1, .slice a2 k2 c2] 98)).cell? ⟨w3.heap.size, 0, none⟩ = some (.int .u64 (XX : Int)) ∧ (w3.alloc (.cells #[.int .u64 (XX : Int), .bool NG, .int .i8 C, .bool VN, .slice a1 k1 c1, .slice a2 k2 c2] 98)).cell? ⟨w3.heap.size, 1, none⟩ = some (.bool NG) ∧ (w3.alloc (.cells #[.int .u64 (XX : Int), .bool NG, .int .i8 C, .bool VN, .slice a1 k1 c1, .slice a2 k2 c2] 98)).cell? ⟨w3.heap.size, 2, none⟩ = some (.int .i8 C) ∧ (w3.alloc (.cells #[.int .u64 (XX : Int), .bool NG, .int .i8 C, .bool VN, .slice a1 k1 c1, .slice a2 k2 c2] 98)).cell? ⟨w3.heap.size, 3, none⟩ = some (.bool VN) ∧ (w3.alloc (.cells #[.int .u64 (XX : Int), .bool NG, .int .i8 C, .bool VN, .slice a1 k1 c1, .slice a2 k2 c2] 98)).cell? ⟨w3.heap.size, 4, none⟩ = some (.slice a1 k1 c1) ∧ (w3.alloc (.cells #[.int .u64 (XX : Int), .bool NG, .int .i8 C, .bool VN, .slice a1 k1 c1, .slice a2 k2 c2] 98)).cell? ⟨w3.heap.size, 5, none⟩ = some (.slice a2 k2 c2) ∧ (∀ o, (w3.alloc (.cells #[.int .u64 (XX : Int), .bool NG, .int .i8 C, .bool VN, .slice a1 k1 c1, .slice a2 k2 c2] 98)).frozen? ⟨w3.heap.size, o, none⟩ = false) ∧ w3.heap.size < (w3.alloc (.cells #[.int .u64 (XX : Int), .bool NG, .int .i8 C, .bool VN, .slice a1 k1 c1, .slice a2 k2 c2] 98)).heap.size) ∧ Kp (w3.alloc (.cells #[.int .u64 (XX : Int), .bool NG, .int .i8 C, .bool VN, .slice a1 k1 c1, .slice a2 k2 c2] 98)) (w3.alloc (.cells #[.int .u64 (XX : Int), .bool NG, .int .i8 C, .bool VN, .slice a1 k1 c1, .slice a2 k2 c2] 98)) := ⟨hG0.1, hG0.2, Kp.refl _⟩
      clear hb hF hN1 hN2 hG0
      have HB1 : Hid (∀ W, ((W.cell? ⟨w.heap.size, 0, none⟩ = some (.int .u8 (E : Int)) ∧ W.cell? ⟨w.heap.size, 1, none⟩ = some (.int .u8 (M : Int)) ∧ w.heap.size < W.heap.size ∧ Below w.heap.size w W) ∧ (W.cell? ⟨w3.heap.size, 0, none⟩ = some (.int .u64 (XX : Int)) ∧ W.cell? ⟨w3.heap.size, 1, none⟩ = some (.bool NG) ∧ W.cell? ⟨w3.heap.size, 2, none⟩ = some (.int .i8 C) ∧ W.cell? ⟨w3.heap.size, 3, none⟩ = some (.bool VN) ∧ W.cell? ⟨w3.heap.size, 4, none⟩ = some (.slice a1 k1 c1) ∧ W.cell? ⟨w3.heap.size, 5, none⟩ = some (.slice a2 k2 c2) ∧ (∀ o, W.frozen? ⟨w3.heap.size, o, none⟩ = false) ∧ w3.heap.size < W.heap.size) ∧ Kp (w3.alloc (.cells #[.int .u64 (XX : Int), .bool NG, .int .i8 C, .bool VN, .slice a1 k1 c1, .slice a2 k2 c2] 98)) W) → Calls Oajg.prog 68 #[.slice a1 k1 c1] W fun e w' => e = .returned (.int .i64 (bitLen NUM : Nat)) ∧ Below W.heap.size W w') := fun W hW => HBL.out W _ _ _ _ (HN1.out.kp hW.2.2)
      have HB2 : Hid (∀ W, ((W.cell? ⟨w.heap.size, 0, none⟩ = some (.int .u8 (E : Int)) ∧ W.cell? ⟨w.heap.size, 1, none⟩ = some (.int .u8 (M : Int)) ∧ w.heap.size < W.heap.size ∧ Below w.heap.size w W) ∧ (W.cell? ⟨w3.heap.size, 0, none⟩ = some (.int .u64 (XX : Int)) ∧ W.cell? ⟨w3.heap.size, 1, none⟩ = some (.bool NG) ∧ W.cell? ⟨w3.heap.size, 2, none⟩ = some (.int .i8 C) ∧ W.cell? ⟨w3.heap.size, 3, none⟩ = some (.bool VN) ∧ W.cell? ⟨w3.heap.size, 4, none⟩ = some (.slice a1 k1 c1) ∧ W.cell? ⟨w3.heap.size, 5, none⟩ = some (.slice a2 k2 c2) ∧ (∀ o, W.frozen? ⟨w3.heap.size, o, none⟩ = false) ∧ w3.heap.size < W.heap.size) ∧ Kp (w3.alloc (.cells #[.int .u64 (XX : Int), .bool NG, .int .i8 C, .bool VN, .slice a1 k1 c1, .slice a2 k2 c2] 98)) W) → Calls Oajg.prog 68 #[.slice a2 k2 c2] W fun e w' => e = .returned (.int .i64 (bitLen DEN : Nat)) ∧ Below W.heap.size W w') := fun W hW => HBL.out W _ _ _ _ (HN2.out.kp hW.2.2)
      generalize bitLen NUM = L1 at *
      generalize bitLen DEN = L2 at *
      go_wp2_with fail
      generalize (w3.alloc (.cells #[.int .u64 (XX : Int), .bool NG, .int .i8 C, .bool VN, .slice a1 k1 c1, .slice a2 k2 c2] 98)) = A at *
      generalize w3.heap.size = n3 at *
      go_region_held3 (fun W => (W.cell? ⟨w.heap.size, 0, none⟩ = some (.int .u8 (E : Int)) ∧ W.cell? ⟨w.heap.size, 1, none⟩ = some (.int .u8 (M : Int)) ∧ w.heap.size < W.heap.size ∧ Below w.heap.size w W) ∧ (W.cell? ⟨n3, 0, none⟩ = some (.int .u64 (XX : Int)) ∧ W.cell? ⟨n3, 1, none⟩ = some (.bool NG) ∧ W.cell? ⟨n3, 2, none⟩ = some (.int .i8 C) ∧ W.cell? ⟨n3, 3, none⟩ = some (.bool VN) ∧ W.cell? ⟨n3, 4, none⟩ = some (.slice a1 k1 c1) ∧ W.cell? ⟨n3, 5, none⟩ = some (.slice a2 k2 c2) ∧ (∀ o, W.frozen? ⟨n3, o, none⟩ = false) ∧ n3 < W.heap.size) ∧ Kp A W)
        ((repeat' (first | with_reducible assumption | with_reducible refine sk_drew ?_)))
        ((first | (go_at_call 68; (with_reducible refine Calls.mono (HB1.out _ ?hh) ?_); (case hh => with_reducible assumption); rintro _ w4 ⟨rfl, hb⟩; have hG4 := sk_next (by with_reducible assumption) hb; clear hb) | (go_at_call 68; (with_reducible refine Calls.mono (HB2.out _ ?hh) ?_); (case hh => with_reducible assumption); rintro _ w5 ⟨rfl, hb⟩; have hG5 := sk_next (by with_reducible assumption) hb; clear hb)))
      go_wp2_with fail
      refine Calls.mono (HLG.out _ _ _ _ _ _ _ (HN1.out.kp hG5.2.2) (HN2.out.kp hG5.2.2)) ?_
      rintro _ w6 ⟨rfl, hb⟩
      have hG6 := sk_next hG5 hb
      clear hb
      go_wp2_with fail
      go_ret3
      exact ⟨rfl, hG6.1.2.2.2⟩


set_option maxRecDepth 100000 in
set_option maxHeartbeats 1000000 in
theorem logS_not (E M : Nat) (h : okB E M = false) (a : Nat) (w : World) :
    Calls Oajg.prog 34 #[.agg #[.int .u8 (E : Int), .int .u8 (M : Int)], .int .u64 (a : Int)] w fun e w' => e = .returned (.tuple #[.int .i64 0, .bool false]) ∧ Below w.heap.size w w' := by
  have hF := sf_box w E M
  have HC : Hid (∀ w, Calls Oajg.prog 33 #[.agg #[.int .u8 (E : Int), .int .u8 (M : Int)], .int .u64 (a : Int)] w fun e w' => e = .returned (.tuple #[.int .i64 0, .bool false, .int .u8 0]) ∧ Below w.heap.size w w') := logFlagsS_not E M h a
  clear h
  go_enter Oajg.func34, Oajg.ntmps34
  go_wp2_with fail
  refine Calls.mono (HC.out _) ?_
  rintro _ w1 ⟨rfl, hb⟩
  replace hF := sf_next hF hb
  clear hb
  go_wp2_with fail
  go_ret2
  exact ⟨rfl, hF.2.2.2⟩

set_option maxRecDepth 100000 in
set_option maxHeartbeats 1000000 in
theorem logS_ok (E M : Nat) (h : FOk E M) (a : Nat) (ha : a < 18446744073709551616) (w : World) :
    Calls Oajg.prog 34 #[.agg #[.int .u8 (E : Int), .int .u8 (M : Int)], .int .u64 (a : Int)] w fun e w' => e = .returned (.tuple #[.int .i64 (lbN E M a), .bool (lbOk E M a)]) ∧ Below w.heap.size w w' := by
  have hF := sf_box w E M
  have HC : Hid (∀ w, Calls Oajg.prog 33 #[.agg #[.int .u8 (E : Int), .int .u8 (M : Int)], .int .u64 (a : Int)] w fun e w' => e = .returned (.tuple #[.int .i64 (lbN E M a), .bool (lbOk E M a), .int .u8 (lbF E M a)]) ∧ Below w.heap.size w w') := logFlagsS_ok E M h a ha
  clear h
  generalize lbN E M a = RN at *
  generalize lbOk E M a = RO at *
  generalize lbF E M a = RF at *
  go_enter Oajg.func34, Oajg.ntmps34
  go_wp2_with fail
  refine Calls.mono (HC.out _) ?_
  rintro _ w1 ⟨rfl, hb⟩
  replace hF := sf_next hF hb
  clear hb
  go_wp2_with fail
  go_ret2
  exact ⟨rfl, hF.2.2.2⟩

set_option maxRecDepth 100000 in
set_option maxHeartbeats 1000000 in
theorem logX_not (E M : Nat) (h : okB E M = false) (a : Nat) (w : World) :
    Calls Oajg.prog 20 #[.agg #[.int .u8 (E : Int), .int .u8 (M : Int)], .int .u64 (a : Int)] w fun e w' => e = .returned (.tuple #[.int .i64 0, .bool false]) ∧ Below w.heap.size w w' := by
  have hF := sf_box w E M
  have HC : Hid (∀ w, Calls Oajg.prog 19 #[.agg #[.int .u8 (E : Int), .int .u8 (M : Int)], .int .u64 (a : Int)] w fun e w' => e = .returned (.tuple #[.int .i64 0, .bool false, .int .u8 0]) ∧ Below w.heap.size w w') := logFlagsX_not E M h a
  clear h
  go_enter Oajg.func20, Oajg.ntmps20
  go_wp2_with fail
  refine Calls.mono (HC.out _) ?_
  rintro _ w1 ⟨rfl, hb⟩
  replace hF := sf_next hF hb
  clear hb
  go_wp2_with fail
  go_ret2
  exact ⟨rfl, hF.2.2.2⟩

set_option maxRecDepth 100000 in
set_option maxHeartbeats 1000000 in
theorem logX_ok (E M : Nat) (h : FOk E M) (a : Nat) (ha : a < 18446744073709551616) (w : World) :
    Calls Oajg.prog 20 #[.agg #[.int .u8 (E : Int), .int .u8 (M : Int)], .int .u64 (a : Int)] w fun e w' => e = .returned (.tuple #[.int .i64 (lbN E M a), .bool (lbOk E M a)]) ∧ Below w.heap.size w w' := by
  have hF := sf_box w E M
  have HC : Hid (∀ w, Calls Oajg.prog 19 #[.agg #[.int .u8 (E : Int), .int .u8 (M : Int)], .int .u64 (a : Int)] w fun e w' => e = .returned (.tuple #[.int .i64 (lbN E M a), .bool (lbOk E M a), .int .u8 (lbF E M a)]) ∧ Below w.heap.size w w') := logFlagsX_ok E M h a ha
  clear h
  generalize lbN E M a = RN at *
  generalize lbOk E M a = RO at *
  generalize lbF E M a = RF at *
  go_enter Oajg.func20, Oajg.ntmps20
  go_wp2_with fail
  refine Calls.mono (HC.out _) ?_
  rintro _ w1 ⟨rfl, hb⟩
  replace hF := sf_next hF hb
  clear hb
  go_wp2_with fail
  go_ret2
  exact ⟨rfl, hF.2.2.2⟩

set_option maxRecDepth 100000 in
set_option maxHeartbeats 1000000 in
theorem scaleS_not (E M : Nat) (h : okB E M = false) (mo a : Nat) (n : Int) (w : World) :
    Calls Oajg.prog 35 #[.agg #[.int .u8 (E : Int), .int .u8 (M : Int)], .int .u8 (mo : Int), .int .u64 (a : Int), .int .i64 n] w fun e w' => e = .returned (.int .u64 0) ∧ Below w.heap.size w w' := by
  have hF := sf_box w E M
  have HC : Hid (∀ w, Calls Oajg.prog 32 #[.agg #[.int .u8 (E : Int), .int .u8 (M : Int)], .int .u8 (mo : Int), .int .u64 (a : Int), .int .i64 n] w fun e w' => e = .returned (.tuple #[.int .u64 0, .int .u8 0]) ∧ Below w.heap.size w w') := scaleFlagsS_not E M h mo a n
  clear h
  go_enter Oajg.func35, Oajg.ntmps35
  go_wp2_with fail
  refine Calls.mono (HC.out _) ?_
  rintro _ w1 ⟨rfl, hb⟩
  replace hF := sf_next hF hb
  clear hb
  go_wp2_with fail
  go_ret
  exact ⟨rfl, hF.2.2.2⟩

set_option maxRecDepth 100000 in
set_option maxHeartbeats 1000000 in
theorem scaleS_ok (E M : Nat) (h : FOk E M) (mo a : Nat) (ha : a < 18446744073709551616) (n : Int) (w : World) :
    Calls Oajg.prog 35 #[.agg #[.int .u8 (E : Int), .int .u8 (M : Int)], .int .u8 (mo : Int), .int .u64 (a : Int), .int .i64 n] w fun e w' => e = .returned (.int .u64 (scN E M mo a n : Nat)) ∧ Below w.heap.size w w' := by
  have hF := sf_box w E M
  have HC : Hid (∀ w, Calls Oajg.prog 32 #[.agg #[.int .u8 (E : Int), .int .u8 (M : Int)], .int .u8 (mo : Int), .int .u64 (a : Int), .int .i64 n] w fun e w' => e = .returned (.tuple #[.int .u64 (scN E M mo a n : Nat), .int .u8 (scF E M mo a n)]) ∧ Below w.heap.size w w') := scaleFlagsS_ok E M h mo a ha n
  clear h
  generalize scN E M mo a n = RN at *
  generalize scF E M mo a n = RF at *
  go_enter Oajg.func35, Oajg.ntmps35
  go_wp2_with fail
  refine Calls.mono (HC.out _) ?_
  rintro _ w1 ⟨rfl, hb⟩
  replace hF := sf_next hF hb
  clear hb
  go_wp2_with fail
  go_ret
  exact ⟨rfl, hF.2.2.2⟩

set_option maxRecDepth 100000 in
set_option maxHeartbeats 1000000 in
theorem scaleX_not (E M : Nat) (h : okB E M = false) (mo a : Nat) (n : Int) (w : World) :
    Calls Oajg.prog 21 #[.agg #[.int .u8 (E : Int), .int .u8 (M : Int)], .int .u8 (mo : Int), .int .u64 (a : Int), .int .i64 n] w fun e w' => e = .returned (.int .u64 0) ∧ Below w.heap.size w w' := by
  have hF := sf_box w E M
  have HC : Hid (∀ w, Calls Oajg.prog 18 #[.agg #[.int .u8 (E : Int), .int .u8 (M : Int)], .int .u8 (mo : Int), .int .u64 (a : Int), .int .i64 n] w fun e w' => e = .returned (.tuple #[.int .u64 0, .int .u8 0]) ∧ Below w.heap.size w w') := scaleFlagsX_not E M h mo a n
  clear h
  go_enter Oajg.func21, Oajg.ntmps21
  go_wp2_with fail
  refine Calls.mono (HC.out _) ?_
  rintro _ w1 ⟨rfl, hb⟩
  replace hF := sf_next hF hb
  clear hb
  go_wp2_with fail
  go_ret
  exact ⟨rfl, hF.2.2.2⟩

set_option maxRecDepth 100000 in
set_option maxHeartbeats 1000000 in
theorem scaleX_ok (E M : Nat) (h : FOk E M) (mo a : Nat) (ha : a < 18446744073709551616) (n : Int) (w : World) :
    Calls Oajg.prog 21 #[.agg #[.int .u8 (E : Int), .int .u8 (M : Int)], .int .u8 (mo : Int), .int .u64 (a : Int), .int .i64 n] w fun e w' => e = .returned (.int .u64 (scN E M mo a n : Nat)) ∧ Below w.heap.size w w' := by
  have hF := sf_box w E M
  have HC : Hid (∀ w, Calls Oajg.prog 18 #[.agg #[.int .u8 (E : Int), .int .u8 (M : Int)], .int .u8 (mo : Int), .int .u64 (a : Int), .int .i64 n] w fun e w' => e = .returned (.tuple #[.int .u64 (scN E M mo a n : Nat), .int .u8 (scF E M mo a n)]) ∧ Below w.heap.size w w') := scaleFlagsX_ok E M h mo a ha n
  clear h
  generalize scN E M mo a n = RN at *
  generalize scF E M mo a n = RF at *
  go_enter Oajg.func21, Oajg.ntmps21
  go_wp2_with fail
  refine Calls.mono (HC.out _) ?_
  rintro _ w1 ⟨rfl, hb⟩
  replace hF := sf_next hF hb
  clear hb
  go_wp2_with fail
  go_ret
  exact ⟨rfl, hF.2.2.2⟩

end Go.Proofs.Ygcoaj
