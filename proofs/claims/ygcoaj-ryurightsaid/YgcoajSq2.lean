/-
  WALKS: soft.SqrtFlags (101).
-/
import Derived.Test.YgcoajSq1
set_option linter.unusedVariables false
set_option linter.unusedSimpArgs false
namespace Go.Proofs.Ygcoaj
open Go.RowKit

theorem and1_i16 (x : Int) : bits .and .i16 x 1 = x % 2 := by
  have e : (BitVec.ofInt 16 x &&& BitVec.ofInt 16 1).toNat = (BitVec.ofInt 16 x).toNat % 2 := by rw [BitVec.toNat_and]; exact Nat.and_one_is_mod _
  show IntKind.i16.wrap ((BitVec.ofInt 16 x &&& BitVec.ofInt 16 1).toNat : Int) = x % 2
  rw [e, BitVec.toNat_ofInt, i16_wrap]
  omega
theorem or1_u64 (x : Nat) (hx : x < 18446744073709551616) : bits .or .u64 (x : Int) 1 = ((x + (1 - x % 2) : Nat) : Int) := by
  have e : bits .or .u64 (x : Int) ((1 : Nat) : Int) = ((x ||| 1 : Nat) : Int) := u64_or_nat _ _ hx (by decide)
  refine Eq.trans e ?_
  congr 1
  have h1 : x = 2 * (x / 2) + x % 2 := (Nat.div_add_mod x 2).symm
  rcases Nat.mod_two_eq_zero_or_one x with h | h
  · have := nat_join 1 x 1 h (by decide)
    rw [this, h]
  · have e2 : x ||| 1 = x := by
      apply Nat.eq_of_testBit_eq
      intro i
      rw [Nat.testBit_or]
      cases i with
      | zero => simp [Nat.testBit_zero, h]
      | succ i => simp [Nat.testBit_succ]
    rw [e2, h]; rfl

/-- the root with its lowest bit set where something was left -/
def stk (V r : Nat) : Nat := if r * r = V then r else r + (1 - r % 2)
/-- the number under the root, moved up to 126 or 127 bits -/
def sqV (E M a : Nat) : Nat := if (upE E M a + (M : Int)) % 2 = 0 then upM E M a * 2 ^ (63 - M) * 9223372036854775808 else upM E M a * 2 ^ (63 - M) * 18446744073709551616
/-- Sqrt, plain: F for the finite above zero -/
def sqN (E M a F : Nat) : Nat := if upC E M a = 4 then nanN E M else if upC E M a = 0 then sgnd E M (fNeg E M a) 0 else if fNeg E M a then nanN E M else if upC E M a = 3 then sgnd E M false (infN E M) else F

theorem sg2_next {w W W' : World} {b E M : Nat} {n : Nat} {u0 u1 : Value} (h : (W.cell? ⟨b, 0, none⟩ = some (.int .u8 (E : Int)) ∧ W.cell? ⟨b, 1, none⟩ = some (.int .u8 (M : Int)) ∧ b < W.heap.size ∧ Below w.heap.size w W) ∧ (W.cell? ⟨n, 0, none⟩ = some u0 ∧ W.cell? ⟨n, 1, none⟩ = some u1 ∧ (∀ o, W.frozen? ⟨n, o, none⟩ = false) ∧ n < W.heap.size)) (hb : Below W.heap.size W W') : (W'.cell? ⟨b, 0, none⟩ = some (.int .u8 (E : Int)) ∧ W'.cell? ⟨b, 1, none⟩ = some (.int .u8 (M : Int)) ∧ b < W'.heap.size ∧ Below w.heap.size w W') ∧ (W'.cell? ⟨n, 0, none⟩ = some u0 ∧ W'.cell? ⟨n, 1, none⟩ = some u1 ∧ (∀ o, W'.frozen? ⟨n, o, none⟩ = false) ∧ n < W'.heap.size) := ⟨sf_next h.1 hb, bx2_next h.2 hb⟩
theorem sg2_made {w W : World} {b E M : Nat} (t : Nat) (h : (W.cell? ⟨b, 0, none⟩ = some (.int .u8 (E : Int)) ∧ W.cell? ⟨b, 1, none⟩ = some (.int .u8 (M : Int)) ∧ b < W.heap.size ∧ Below w.heap.size w W)) (u0 u1 : Value) : ((W.alloc (.cells #[u0, u1] t)).cell? ⟨b, 0, none⟩ = some (.int .u8 (E : Int)) ∧ (W.alloc (.cells #[u0, u1] t)).cell? ⟨b, 1, none⟩ = some (.int .u8 (M : Int)) ∧ b < (W.alloc (.cells #[u0, u1] t)).heap.size ∧ Below w.heap.size w (W.alloc (.cells #[u0, u1] t))) ∧ ((W.alloc (.cells #[u0, u1] t)).cell? ⟨W.heap.size, 0, none⟩ = some u0 ∧ (W.alloc (.cells #[u0, u1] t)).cell? ⟨W.heap.size, 1, none⟩ = some u1 ∧ (∀ o, (W.alloc (.cells #[u0, u1] t)).frozen? ⟨W.heap.size, o, none⟩ = false) ∧ W.heap.size < (W.alloc (.cells #[u0, u1] t)).heap.size) := ⟨sf_next h ((Below.refl _ _).alloc (Nat.le_refl _) _), bx2_made W u0 u1 t rfl⟩
theorem sg2_store {w W : World} {b E M : Nat} {n : Nat} {u0 u1 : Value} (h : (W.cell? ⟨b, 0, none⟩ = some (.int .u8 (E : Int)) ∧ W.cell? ⟨b, 1, none⟩ = some (.int .u8 (M : Int)) ∧ b < W.heap.size ∧ Below w.heap.size w W) ∧ (W.cell? ⟨n, 0, none⟩ = some u0 ∧ W.cell? ⟨n, 1, none⟩ = some u1 ∧ (∀ o, W.frozen? ⟨n, o, none⟩ = false) ∧ n < W.heap.size)) (hn : b ≠ n) (hw : w.heap.size ≤ n) (v0 v1 : Value) : (((W.setCell ⟨n, 0, none⟩ v0).setCell ⟨n, 1, none⟩ v1).cell? ⟨b, 0, none⟩ = some (.int .u8 (E : Int)) ∧ ((W.setCell ⟨n, 0, none⟩ v0).setCell ⟨n, 1, none⟩ v1).cell? ⟨b, 1, none⟩ = some (.int .u8 (M : Int)) ∧ b < ((W.setCell ⟨n, 0, none⟩ v0).setCell ⟨n, 1, none⟩ v1).heap.size ∧ Below w.heap.size w ((W.setCell ⟨n, 0, none⟩ v0).setCell ⟨n, 1, none⟩ v1)) ∧ (((W.setCell ⟨n, 0, none⟩ v0).setCell ⟨n, 1, none⟩ v1).cell? ⟨n, 0, none⟩ = some v0 ∧ ((W.setCell ⟨n, 0, none⟩ v0).setCell ⟨n, 1, none⟩ v1).cell? ⟨n, 1, none⟩ = some v1 ∧ (∀ o, ((W.setCell ⟨n, 0, none⟩ v0).setCell ⟨n, 1, none⟩ v1).frozen? ⟨n, o, none⟩ = false) ∧ n < ((W.setCell ⟨n, 0, none⟩ v0).setCell ⟨n, 1, none⟩ v1).heap.size) := by
  refine ⟨⟨?_, ?_, ?_, ?_⟩, bx2_store h.2 v0 v1⟩
  · rw [other _ _ (by simp [hn]), other _ _ (by simp [hn])]; exact h.1.1
  · rw [other _ _ (by simp [hn]), other _ _ (by simp [hn])]; exact h.1.2.1
  · simpa using h.1.2.2.1
  · exact (h.1.2.2.2.setCell hw _).setCell hw _

theorem stk_lt {V r : Nat} (hr : r < 18446744073709551616) : stk V r < 18446744073709551616 := by unfold stk; split <;> omega

set_option maxRecDepth 100000 in
set_option maxHeartbeats 4000000 in
theorem sqrtFlagsS_ok (E M : Nat) (h : FOk E M) (mo a F : Nat) (ha : a < 18446744073709551616) (HL : lbOk E M a = true → fNeg E M a = false → ∀ r, IsRoot (sqV E M a) r → rpN E M mo false ((upE E M a + (M : Int)) / 2 - 63) (stk (sqV E M a) r) = F) (w : World) :
    Calls Oajg.prog 101 #[.agg #[.int .u8 (E : Int), .int .u8 (M : Int)], .int .u8 (mo : Int), .int .u64 (a : Int)] w fun e w' => ∃ fl, e = .returned (.tuple #[.int .u64 (sqN E M a F : Nat), .int .u8 fl]) ∧ Below w.heap.size w w' := by
  have hF := sf_box w E M
  have HO : Hid (∀ w, Calls Oajg.prog 17 #[.agg #[.int .u8 (E : Int), .int .u8 (M : Int)]] w fun e w' => e = .returned (.bool true) ∧ Below w.heap.size w w') := ok_yes h
  have HNA : Hid (∀ w, Calls Oajg.prog 64 #[.agg #[.int .u8 (E : Int), .int .u8 (M : Int)]] w fun e w' => e = .returned (.int .u64 (nanN E M : Nat)) ∧ Below w.heap.size w w') := nan_ok E M h
  have HHE : Hid (∀ w, Calls Oajg.prog 83 #[.agg #[.int .u8 (E : Int), .int .u8 (M : Int)], .int .u64 (a : Int), .int .u64 (a : Int)] w fun e w' => e = .returned (.int .u8 (hdI E M a)) ∧ Below w.heap.size w w') := heardS_ok E M h a a ha ha
  have HIN : Hid (∀ w, Calls Oajg.prog 84 #[.agg #[.int .u8 (E : Int), .int .u8 (M : Int)], .bool false] w fun e w' => e = .returned (.int .u64 (sgnd E M false (infN E M) : Nat)) ∧ Below w.heap.size w w') := inf_ok E M h false
  have HZE : Hid (∀ w, Calls Oajg.prog 132 #[.agg #[.int .u8 (E : Int), .int .u8 (M : Int)], .bool (fNeg E M a)] w fun e w' => e = .returned (.int .u64 (sgnd E M (fNeg E M a) 0 : Nat)) ∧ Below w.heap.size w w') := zeroS_ok E M h (fNeg E M a)
  have HUP : Hid (∀ w, Calls Oajg.prog 74 #[.agg #[.int .u8 (E : Int), .int .u8 (M : Int)], .int .u64 (a : Int)] w fun e w' => e = .returned (.agg #[.bool (upN E M a), .int .i8 (upC E M a), .int .i16 (upE E M a), .int .u64 (upM E M a : Nat)]) ∧ Below w.heap.size w w') := unpack_ok E M h a ha
  have HCN : Hid (upC E M a ≠ 4 → upN E M a = fNeg E M a) := upN_fin
  by_cases c4 : upC E M a = 4
  · have HRN : Hid (sqN E M a F = nanN E M) := by show _ = _; unfold sqN; rw [if_pos c4]
    have j0 : (upC E M a == 0) = false := by rw [c4]; rfl
    have j4 : (upC E M a == 4) = true := by rw [c4]; rfl
    clear h HCN HIN HZE HL c4
    generalize hdI E M a = HD at *
    generalize nanN E M = NA at *
    generalize sgnd E M false (infN E M) = IN at *
    generalize sgnd E M (fNeg E M a) 0 = ZE at *
    generalize sqN E M a F = RN at *
    generalize upE E M a = VE at *
    generalize upM E M a = VM at *
    generalize upC E M a = C at *
    generalize upN E M a = NG at *
    generalize fNeg E M a = NG2 at *
    go_enter Oajg.func101, Oajg.ntmps101
    go_wp2_with fail
    refine Calls.mono (HO.out _) ?_
    rintro _ w1 ⟨rfl, hb⟩
    replace hF := sf_next hF hb
    clear hb
    go_wp2_with fail
    refine Calls.mono (HUP.out _) ?_
    rintro _ w3 ⟨rfl, hb⟩
    replace hF := sf_next hF hb
    have hG := sg4_made 107 hF (.bool NG) (.int .i8 C) (.int .i16 VE) (.int .u64 (VM : Int))
    clear hb hF
    go_wp2_with fail
    go_region_held3 (fun W => (W.cell? ⟨w.heap.size, 0, none⟩ = some (.int .u8 (E : Int)) ∧ W.cell? ⟨w.heap.size, 1, none⟩ = some (.int .u8 (M : Int)) ∧ w.heap.size < W.heap.size ∧ Below w.heap.size w W) ∧ (W.cell? ⟨w3.heap.size, 0, none⟩ = some (.bool NG) ∧ W.cell? ⟨w3.heap.size, 1, none⟩ = some (.int .i8 C) ∧ W.cell? ⟨w3.heap.size, 2, none⟩ = some (.int .i16 VE) ∧ W.cell? ⟨w3.heap.size, 3, none⟩ = some (.int .u64 (VM : Int)) ∧ (∀ o, W.frozen? ⟨w3.heap.size, o, none⟩ = false) ∧ w3.heap.size < W.heap.size))
      ((repeat' (first | with_reducible assumption | with_reducible refine sg4_drew ?_)))
      ((first | (go_at_call 64; refine Calls.mono (HNA.out _) ?_; rintro _ w4 ⟨rfl, hb⟩; have hG4 := sg4_next (by with_reducible assumption) hb; clear hb) | (go_at_call 83; refine Calls.mono (HHE.out _) ?_; rintro _ w5 ⟨rfl, hb⟩; have hG5 := sg4_next (by with_reducible assumption) hb; clear hb)))
    go_wp2_with fail
    go_ret2
    exact ⟨_, by rw [HRN.out]; rfl, by first | exact hG5.1.2.2.2 | exact hG4.1.2.2.2⟩
  have hNG := HCN.out c4
  rw [hNG] at HUP
  clear hNG HCN
  have j4 : (upC E M a == 4) = false := by simp [c4]
  by_cases c0 : upC E M a = 0
  · have HRN : Hid (sqN E M a F = sgnd E M (fNeg E M a) 0) := by show _ = _; unfold sqN; rw [if_neg c4, if_pos c0]
    have j0 : (upC E M a == 0) = true := by simp [c0]
    clear h HIN HNA HHE HL c4 c0
    generalize hdI E M a = HD at *
    generalize nanN E M = NA at *
    generalize sgnd E M false (infN E M) = IN at *
    generalize sgnd E M (fNeg E M a) 0 = ZE at *
    generalize sqN E M a F = RN at *
    generalize upE E M a = VE at *
    generalize upM E M a = VM at *
    generalize upC E M a = C at *
    generalize fNeg E M a = NG at *
    go_enter Oajg.func101, Oajg.ntmps101
    go_wp2_with fail
    refine Calls.mono (HO.out _) ?_
    rintro _ w1 ⟨rfl, hb⟩
    replace hF := sf_next hF hb
    clear hb
    go_wp2_with fail
    refine Calls.mono (HUP.out _) ?_
    rintro _ w3 ⟨rfl, hb⟩
    replace hF := sf_next hF hb
    have hG := sg4_made 107 hF (.bool NG) (.int .i8 C) (.int .i16 VE) (.int .u64 (VM : Int))
    clear hb hF
    go_wp2_with fail
    refine Calls.mono (HZE.out _) ?_
    rintro _ w4 ⟨rfl, hb⟩
    have hG4 := sg4_next hG hb
    clear hb
    go_wp2_with fail
    go_ret2
    exact ⟨_, by rw [HRN.out]; rfl, hG4.1.2.2.2⟩
  have j0 : (upC E M a == 0) = false := by simp [c0]
  by_cases hn : fNeg E M a = true
  · have HRN : Hid (sqN E M a F = nanN E M) := by show _ = _; unfold sqN; rw [if_neg c4, if_neg c0, if_pos hn]
    rw [hn] at HUP
    clear h HIN HZE HHE HL c4 c0 hn
    generalize nanN E M = NA at *
    generalize sqN E M a F = RN at *
    generalize upE E M a = VE at *
    generalize upM E M a = VM at *
    generalize upC E M a = C at *
    go_enter Oajg.func101, Oajg.ntmps101
    go_wp2_with fail
    refine Calls.mono (HO.out _) ?_
    rintro _ w1 ⟨rfl, hb⟩
    replace hF := sf_next hF hb
    clear hb
    go_wp2_with fail
    refine Calls.mono (HUP.out _) ?_
    rintro _ w3 ⟨rfl, hb⟩
    replace hF := sf_next hF hb
    have hG := sg4_made 107 hF (.bool true) (.int .i8 C) (.int .i16 VE) (.int .u64 (VM : Int))
    clear hb hF
    go_wp2_with fail
    refine Calls.mono (HNA.out _) ?_
    rintro _ w4 ⟨rfl, hb⟩
    have hG4 := sg4_next hG hb
    clear hb
    go_wp2_with fail
    go_ret2
    exact ⟨_, by rw [HRN.out]; rfl, hG4.1.2.2.2⟩
  have hnf : fNeg E M a = false := by simpa using hn
  rw [hnf] at HUP
  by_cases c3 : upC E M a = 3
  · have HRN : Hid (sqN E M a F = sgnd E M false (infN E M)) := by show _ = _; unfold sqN; rw [if_neg c4, if_neg c0, if_neg hn, if_pos c3]
    have j3 : (upC E M a == 3) = true := by simp [c3]
    clear h HNA HZE HHE HL c4 c0 hn hnf c3
    generalize sgnd E M false (infN E M) = IN at *
    generalize sqN E M a F = RN at *
    generalize upE E M a = VE at *
    generalize upM E M a = VM at *
    generalize upC E M a = C at *
    go_enter Oajg.func101, Oajg.ntmps101
    go_wp2_with fail
    refine Calls.mono (HO.out _) ?_
    rintro _ w1 ⟨rfl, hb⟩
    replace hF := sf_next hF hb
    clear hb
    go_wp2_with fail
    refine Calls.mono (HUP.out _) ?_
    rintro _ w3 ⟨rfl, hb⟩
    replace hF := sf_next hF hb
    have hG := sg4_made 107 hF (.bool false) (.int .i8 C) (.int .i16 VE) (.int .u64 (VM : Int))
    clear hb hF
    go_wp2_with fail
    refine Calls.mono (HIN.out _) ?_
    rintro _ w4 ⟨rfl, hb⟩
    have hG4 := sg4_next hG hb
    clear hb
    go_wp2_with fail
    go_ret2
    exact ⟨_, by rw [HRN.out]; rfl, hG4.1.2.2.2⟩
  have j3 : (upC E M a == 3) = false := by simp [c3]
  have hl : lbOk E M a = true := by
    unfold lbOk
    rcases upC_range E M a with h1 | h1 | h1 | h1 | h1
    · exact absurd h1 c0
    · rw [h1]; rfl
    · rw [h1]; rfl
    · exact absurd h1 c3
    · exact absurd h1 c4
  have HRN : Hid (sqN E M a F = F) := by show _ = _; unfold sqN; rw [if_neg c4, if_neg c0, if_neg hn, if_neg c3]
  have HL2 := HL hl hnf
  clear HL
  obtain ⟨hm1, hm2⟩ := upM_norm h hl
  obtain ⟨hu1, hu2⟩ := upE_range h a
  have hM := h.m52
  obtain ⟨mt, hmt⟩ : ∃ m, m = upM E M a * 2 ^ (63 - M) := ⟨_, rfl⟩
  have hmt1 : 9223372036854775808 ≤ mt := by
    have e : (2 : Nat) ^ M * 2 ^ (63 - M) = 9223372036854775808 := by rw [← Nat.pow_add, show M + (63 - M) = 63 by omega]
    rw [hmt, ← e]
    exact Nat.mul_le_mul_right _ hm1
  have hmt2 : mt < 18446744073709551616 := by
    have e : (2 : Nat) ^ (M + 1) * 2 ^ (63 - M) = 18446744073709551616 := by rw [← Nat.pow_add, show M + 1 + (63 - M) = 64 by omega]
    rw [hmt, ← e]
    exact Nat.mul_lt_mul_of_pos_right hm2 (pp _)
  have HTO : Hid (∀ W, Calls Oajg.prog 151 #[.agg #[.int .u8 (E : Int), .int .u8 (M : Int)], .agg #[.bool false, .int .i8 (upC E M a), .int .i16 (upE E M a), .int .u64 (upM E M a : Nat)]] W fun e w' => e = .returned (.tuple #[.int .u64 (mt : Int), .int .i16 (upE E M a - ((63 - M : Nat) : Int))]) ∧ Below W.heap.size W w') := fun W => by
    have := top_ok E M (by omega) false (upC E M a) (upE E M a) (upM E M a) (by rw [← hmt]; exact hmt2) (by omega) (by omega) W
    rw [← hmt] at this
    exact this
  obtain ⟨L, hL⟩ : ∃ L, L = upE E M a + (M : Int) := ⟨_, rfl⟩
  have he0 : upE E M a - ((63 - M : Nat) : Int) = L - 63 := by omega
  rw [he0] at HTO
  rw [← hL] at HL2
  have hLr : -2000 ≤ L ∧ L ≤ 3000 := by omega
  have HSQ : Hid (∀ ah al W, 4611686018427387904 ≤ ah → ah < 18446744073709551616 → al < 18446744073709551616 → Calls Oajg.prog 153 #[.agg #[.int .u64 ((ah : Nat) : Int), .int .u64 ((al : Nat) : Int)]] W fun e w' => ∃ r, IsRoot (w128 ah al) r ∧ r < 18446744073709551616 ∧ e = .returned (.tuple #[.int .u64 (r : Int), .bool (decide (r * r = w128 ah al))]) ∧ Below W.heap.size W w') := fun ah al W h1 h2 h3 => wsqrt_ok ah al h1 h2 h3 W
  have HRP : Hid (∀ r W, r < 18446744073709551616 → IsRoot (sqV E M a) r → Calls Oajg.prog 85 #[.agg #[.int .u8 (E : Int), .int .u8 (M : Int)], .int .u8 (mo : Int), .bool false, .int .i16 (L / 2 - 63), .int .u64 ((stk (sqV E M a) r : Nat) : Int)] W fun e w' => ∃ fl, e = .returned (.tuple #[.int .u64 (F : Nat), .int .u8 fl]) ∧ Below W.heap.size W w') := fun r W hr hir => by
    have := roundPack_ok E M h mo false (L / 2 - 63) (stk (sqV E M a) r) (stk_lt hr) (by omega) (by omega) W
    rw [HL2 r hir] at this
    exact Calls.mono this (fun e w' he => ⟨_, he.1, he.2⟩)
  have hV : sqV E M a = if L % 2 = 0 then mt * 9223372036854775808 else mt * 18446744073709551616 := by unfold sqV; rw [← hL, ← hmt]
  generalize sqV E M a = V at *
  clear h HNA HZE HHE HIN c4 c0 hn hnf c3 hl HL2 hm1 hm2 hmt hL he0
  generalize sqN E M a F = RN at *
  generalize upE E M a = VE at *
  generalize upM E M a = VM at *
  generalize upC E M a = C at *
  by_cases hp : L % 2 = 0
  · rw [if_pos hp] at hV
    have ke : bits .and .i16 (L - 63) 1 = 1 := by rw [and1_i16]; omega
    obtain ⟨H, hH⟩ : ∃ H, L = 2 * H := ⟨L / 2, by omega⟩
    subst hH
    have ke1 : IntKind.i16.wrap (2 * H - 63 + 1) = 2 * H - 62 := by rw [i16_wrap]; omega
    have ke2 : (2 * H - 62).tdiv 2 = H - 31 := by rw [show 2 * H - 62 = (H - 31) * 2 by omega]; exact Int.mul_tdiv_cancel _ (by decide)
    have ke3 : IntKind.i16.wrap (H - 31) = H - 31 := by rw [i16_wrap]; omega
    have ke4 : IntKind.i16.wrap (H - 31 - 32) = H - 63 := by rw [i16_wrap]; omega
    have ke5 : 2 * H / 2 - 63 = H - 63 := by omega
    rw [ke5] at HRP
    obtain ⟨vh, hvh⟩ : ∃ v, v = mt / 2 := ⟨_, rfl⟩
    obtain ⟨vl, hvl⟩ : ∃ v, v = mt % 2 * 9223372036854775808 := ⟨_, rfl⟩
    have hVV : w128 vh vl = V := by rw [hV]; unfold w128; omega
    have HSH : Hid (∀ W, Calls Oajg.prog 152 #[.agg #[.int .u64 (mt : Int), .int .u64 0], .int .u8 1] W fun e w' => e = .returned (.agg #[.int .u64 (vh : Int), .int .u64 (vl : Int)]) ∧ Below W.heap.size W w') := fun W => by
      have := wshr_ok mt 0 1 hmt2 (by decide) (by decide) W
      rw [show w128 mt 0 / 2 ^ 1 / 18446744073709551616 = vh from by rw [hvh]; unfold w128; omega, show w128 mt 0 / 2 ^ 1 % 18446744073709551616 = vl from by rw [hvl]; unfold w128; omega] at this
      exact this
    have HSQ2 := fun W => HSQ.out vh vl W (by omega) (by omega) (by omega)
    rw [hVV] at HSQ2
    have HS2 : Hid (∀ W, Calls Oajg.prog 153 #[.agg #[.int .u64 (vh : Int), .int .u64 (vl : Int)]] W fun e w' => ∃ r, IsRoot V r ∧ r < 18446744073709551616 ∧ e = .returned (.tuple #[.int .u64 (r : Int), .bool (decide (r * r = V))]) ∧ Below W.heap.size W w') := HSQ2
    clear HSQ HSQ2 hVV hvh hvl hV hp hmt1 ke5 hLr
    go_enter Oajg.func101, Oajg.ntmps101
    go_wp2_with fail
    refine Calls.mono (HO.out _) ?_
    rintro _ w1 ⟨rfl, hb⟩
    replace hF := sf_next hF hb
    clear hb
    go_wp2_with fail
    refine Calls.mono (HUP.out _) ?_
    rintro _ w3 ⟨rfl, hb⟩
    replace hF := sf_next hF hb
    have hG := sg4_made 107 hF (.bool false) (.int .i8 C) (.int .i16 VE) (.int .u64 (VM : Int))
    clear hb hF
    go_wp2_with fail
    refine Calls.mono (HTO.out _) ?_
    rintro _ w4 ⟨rfl, hb⟩
    have hF4 := sf_next hG.1 hb
    clear hb hG HTO HUP HO
    have hG4 := sg2_made 88 hF4 (.int .u64 (mt : Int)) (.int .u64 0)
    have hnb : Hid (w.heap.size ≠ w4.heap.size) := by have := hF4.2.2.1; show _ ≠ _; omega
    have hnw : Hid (w.heap.size ≤ w4.heap.size) := by have := hF4.2.2.1; show _ ≤ _; omega
    clear hF4
    go_wp2_with fail
    refine Calls.mono (HSH.out _) ?_
    rintro _ w5 ⟨rfl, hb⟩
    have hG5 := sg2_next hG4 hb
    have hG6 := sg2_store hG5 hnb.out hnw.out (.int .u64 (vh : Int)) (.int .u64 (vl : Int))
    clear hb hG4 HSH
    go_wp2_with fail
    clear hG5
    refine Calls.mono (HS2.out _) ?_
    rintro _ w6 ⟨r, hr, hr64, rfl, hb⟩
    have hG7 := sg2_next hG6 hb
    clear hb hG6 HS2
    have HRP2 := fun W => HRP.out r W hr64 hr
    by_cases hw : r * r = V
    · have hst : stk V r = r := by unfold stk; rw [if_pos hw]
      rw [hst] at HRP2
      have HR3 : Hid _ := HRP2
      have hd : decide (r * r = V) = true := by rw [decide_eq_true_iff]; exact hw
      rw [hd]
      clear HRP HRP2 hr hst hd hw
      go_wp2_with fail
      refine Calls.mono (HR3.out _) ?_
      rintro _ w7 ⟨fl, rfl, hb⟩
      have hG8 := sg2_next hG7 hb
      clear hb
      go_wp2_with fail
      go_ret2
      exact ⟨_, by rw [HRN.out]; rfl, hG8.1.2.2.2⟩
    · have hst : stk V r = r + (1 - r % 2) := by unfold stk; rw [if_neg hw]
      have hor := or1_u64 r hr64
      rw [← hst] at hor
      have HR3 : Hid _ := HRP2
      have hd : decide (r * r = V) = false := by rw [decide_eq_false_iff_not]; exact hw
      rw [hd]
      generalize stk V r = SS at *
      clear HRP HRP2 hr hst hd hw
      go_wp2_with fail
      refine Calls.mono (HR3.out _) ?_
      rintro _ w7 ⟨fl, rfl, hb⟩
      have hG8 := sg2_next hG7 hb
      clear hb
      go_wp2_with fail
      go_ret2
      exact ⟨_, by rw [HRN.out]; rfl, hG8.1.2.2.2⟩
  · rw [if_neg hp] at hV
    obtain ⟨H, hH⟩ : ∃ H, L = 2 * H + 1 := ⟨L / 2, by omega⟩
    subst hH
    have ke0 : 2 * H + 1 - 63 = 2 * H - 62 := by omega
    rw [ke0] at HTO
    have ke : bits .and .i16 (2 * H - 62) 1 = 0 := by rw [and1_i16]; omega
    have ke2 : (2 * H - 62).tdiv 2 = H - 31 := by rw [show 2 * H - 62 = (H - 31) * 2 by omega]; exact Int.mul_tdiv_cancel _ (by decide)
    have ke3 : IntKind.i16.wrap (H - 31) = H - 31 := by rw [i16_wrap]; omega
    have ke4 : IntKind.i16.wrap (H - 31 - 32) = H - 63 := by rw [i16_wrap]; omega
    have ke5 : (2 * H + 1) / 2 - 63 = H - 63 := by omega
    rw [ke5] at HRP
    have hVV : w128 mt 0 = V := by rw [hV]; unfold w128; omega
    have HSQ2 := fun W => HSQ.out mt 0 W (by omega) (by omega) (by omega)
    rw [hVV] at HSQ2
    have HS2 : Hid (∀ W, Calls Oajg.prog 153 #[.agg #[.int .u64 (mt : Int), .int .u64 0]] W fun e w' => ∃ r, IsRoot V r ∧ r < 18446744073709551616 ∧ e = .returned (.tuple #[.int .u64 (r : Int), .bool (decide (r * r = V))]) ∧ Below W.heap.size W w') := HSQ2
    clear HSQ HSQ2 hVV hV hp hmt1 ke0 ke5 hLr
    go_enter Oajg.func101, Oajg.ntmps101
    go_wp2_with fail
    refine Calls.mono (HO.out _) ?_
    rintro _ w1 ⟨rfl, hb⟩
    replace hF := sf_next hF hb
    clear hb
    go_wp2_with fail
    refine Calls.mono (HUP.out _) ?_
    rintro _ w3 ⟨rfl, hb⟩
    replace hF := sf_next hF hb
    have hG := sg4_made 107 hF (.bool false) (.int .i8 C) (.int .i16 VE) (.int .u64 (VM : Int))
    clear hb hF
    go_wp2_with fail
    refine Calls.mono (HTO.out _) ?_
    rintro _ w4 ⟨rfl, hb⟩
    have hF4 := sf_next hG.1 hb
    clear hb hG HTO HUP HO
    have hG4 := sg2_made 88 hF4 (.int .u64 (mt : Int)) (.int .u64 0)
    have hnb : Hid (w.heap.size ≠ w4.heap.size) := by have := hF4.2.2.1; show _ ≠ _; omega
    have hnw : Hid (w.heap.size ≤ w4.heap.size) := by have := hF4.2.2.1; show _ ≤ _; omega
    clear hF4
    go_wp2_with fail
    refine Calls.mono (HS2.out _) ?_
    rintro _ w6 ⟨r, hr, hr64, rfl, hb⟩
    have hG7 := sg2_next hG4 hb
    clear hb hG4 HS2
    have HRP2 := fun W => HRP.out r W hr64 hr
    by_cases hw : r * r = V
    · have hst : stk V r = r := by unfold stk; rw [if_pos hw]
      rw [hst] at HRP2
      have HR3 : Hid _ := HRP2
      have hd : decide (r * r = V) = true := by rw [decide_eq_true_iff]; exact hw
      rw [hd]
      clear HRP HRP2 hr hst hd hw
      go_wp2_with fail
      refine Calls.mono (HR3.out _) ?_
      rintro _ w7 ⟨fl, rfl, hb⟩
      have hG8 := sg2_next hG7 hb
      clear hb
      go_wp2_with fail
      go_ret2
      exact ⟨_, by rw [HRN.out]; rfl, hG8.1.2.2.2⟩
    · have hst : stk V r = r + (1 - r % 2) := by unfold stk; rw [if_neg hw]
      have hor := or1_u64 r hr64
      rw [← hst] at hor
      have HR3 : Hid _ := HRP2
      have hd : decide (r * r = V) = false := by rw [decide_eq_false_iff_not]; exact hw
      rw [hd]
      generalize stk V r = SS at *
      clear HRP HRP2 hr hst hd hw
      go_wp2_with fail
      refine Calls.mono (HR3.out _) ?_
      rintro _ w7 ⟨fl, rfl, hb⟩
      have hG8 := sg2_next hG7 hb
      clear hb
      go_wp2_with fail
      go_ret2
      exact ⟨_, by rw [HRN.out]; rfl, hG8.1.2.2.2⟩

end Go.Proofs.Ygcoaj
