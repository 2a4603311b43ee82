/-
  WALKS: package law's patterns and fractions.
-/
import Derived.Test.YgcoajXs0
set_option linter.unusedVariables false
set_option linter.unusedSimpArgs false
namespace Go.Proofs.Ygcoaj
open Go.RowKit

set_option maxRecDepth 100000 in
set_option maxHeartbeats 2000000 in
theorem zeroL_ok (E M : Nat) (w : World) : Calls Oajg.prog 127 #[.agg #[.int .u8 (E : Int), .int .u8 (M : Int)], .bool false] w fun e w' => e = .returned (.int .u64 0) ∧ Below w.heap.size w w' := by
  have hF := sf_box w E M
  go_enter Oajg.func127, Oajg.ntmps127
  go_wp2_with fail
  go_ret
  exact ⟨rfl, hF.2.2.2⟩

set_option maxRecDepth 100000 in
set_option maxHeartbeats 2000000 in
theorem infL_ok (E M : Nat) (h : FOk E M) (w : World) : Calls Oajg.prog 72 #[.agg #[.int .u8 (E : Int), .int .u8 (M : Int)], .bool false] w fun e w' => e = .returned (.int .u64 (infN E M : Nat)) ∧ Below w.heap.size w w' := by
  have hF := sf_box w E M
  have HZ : Hid (∀ w, Calls Oajg.prog 127 #[.agg #[.int .u8 (E : Int), .int .u8 (M : Int)], .bool false] w fun e w' => e = .returned (.int .u64 0) ∧ Below w.heap.size w w') := zeroL_ok E M
  have hlt := infN_lt E M
  obtain ⟨a, b, c, d⟩ := h
  have p1 := pow2_lt64 (E + M) (by omega)
  have p2 := pow2_lt64 E (by omega)
  have p3 := pow2_pos E
  have k1 : IntKind.u64.wrap (IntKind.u64.wrap (IntKind.u64.wrap (2 ^ E) - 1) * 2 ^ M) = (infN E M : Int) := by
    unfold infN at *
    rw [wpow (by omega), wrap64' (x := ((2 ^ E : Nat) : Int) - 1) (n := 2 ^ E - 1) (by omega) (by omega)]
    exact wrap64' (by push_cast; rfl) (by omega)
  have k2 : bits .or .u64 0 (infN E M : Int) = (infN E M : Int) := by
    have e : bits .or .u64 ((0 : Nat) : Int) (infN E M : Int) = ((0 ||| infN E M : Nat) : Int) := bits_or_u64_nat _ _ (by omega) (by omega)
    rw [Nat.zero_or] at e
    exact e
  clear p1 p2 p3 hlt
  generalize infN E M = I at *
  go_enter Oajg.func72, Oajg.ntmps72
  go_wp2_with fail
  go_region_held3 (fun W => W.cell? ⟨w.heap.size, 0, none⟩ = some (.int .u8 (E : Int)) ∧ W.cell? ⟨w.heap.size, 1, none⟩ = some (.int .u8 (M : Int)) ∧ w.heap.size < W.heap.size ∧ Below w.heap.size w W)
    ((repeat' (first | with_reducible assumption | with_reducible refine sf_drew ?_)))
    ((go_at_call 127; refine Calls.mono (HZ.out _) ?_; rintro _ w1 ⟨rfl, hb⟩; have hF1 := sf_next (by with_reducible assumption) hb; clear hb))
  go_wp2_with fail
  go_ret
  exact ⟨rfl, hF1.2.2.2⟩

set_option maxRecDepth 100000 in
set_option maxHeartbeats 2000000 in
theorem nanL_ok (E M : Nat) (h : FOk E M) (w : World) :
    Calls Oajg.prog 23 #[.agg #[.int .u8 (E : Int), .int .u8 (M : Int)]] w fun e w' => e = .returned (.int .u64 (nanN E M : Nat)) ∧ Below w.heap.size w w' := by
  have hbx := sf_box w E M
  have HS : Hid (∀ w, Calls Oajg.prog 72 #[.agg #[.int .u8 (E : Int), .int .u8 (M : Int)], .bool false] w fun e w' => e = .returned (.int .u64 (infN E M : Nat)) ∧ Below w.heap.size w w') := infL_ok E M h
  have hlt := infN_lt E M
  obtain ⟨a, b, c, d⟩ := h
  have k1 : IntKind.u64.wrap (2 ^ (M - 1)) = ((2 ^ (M - 1) : Nat) : Int) := wpow (by omega)
  have p1 := pow2_lt64 (E + M) (by omega)
  have p2 := pow2_lt64 (M - 1) (by omega)
  have k2 : bits .or .u64 (infN E M : Int) ((2 ^ (M - 1) : Nat) : Int) = (nanN E M : Int) := by
    unfold nanN
    unfold infN at *
    rw [bits_or_u64_nat _ _ (by omega) (by omega), Nat.mul_comm (2 ^ E - 1), Nat.two_pow_add_eq_or_of_lt (Nat.pow_lt_pow_right (by decide) (by omega))]
  have k3 : IntKind.u8.wrap ((M : Int) - 1) = ((M - 1 : Nat) : Int) := by rw [IntKind.wrap_u8]; omega
  have k4 : min (M - 1) 64 = M - 1 := by omega
  generalize nanN E M = R at k2 ⊢
  generalize infN E M = Q at k2 HS p1 hlt
  generalize 2 ^ (M - 1) = P at k1 k2 p2
  clear p1 p2 hlt
  go_enter Oajg.func23, Oajg.ntmps23
  go_wp2_with fail
  go_region_held3 (fun W => W.cell? ⟨w.heap.size, 0, none⟩ = some (.int .u8 (E : Int)) ∧ W.cell? ⟨w.heap.size, 1, none⟩ = some (.int .u8 (M : Int)) ∧ w.heap.size < W.heap.size ∧ Below w.heap.size w W)
    ((repeat' (first | with_reducible assumption | with_reducible refine sf_drew ?_)))
    ((go_at_call 72; refine Calls.mono (HS.out _) ?_; rintro _ w1 ⟨rfl, hb⟩; have hq1 := sf_next (by with_reducible assumption) hb; clear hb))
  go_wp2_with fail
  go_ret
  exact ⟨rfl, hq1.2.2.2⟩

set_option maxRecDepth 100000 in
set_option maxHeartbeats 2000000 in
theorem signalL_ok (E M : Nat) (h : FOk E M) (x : Nat) (hx : x < 18446744073709551616) (w : World) :
    Calls Oajg.prog 73 #[.agg #[.int .u8 (E : Int), .int .u8 (M : Int)], .int .u64 (x : Int)] w fun e w' => e = .returned (.bool (sigB E M x)) ∧ Below w.heap.size w w' := by
  have HU : Hid (∀ w, Calls Oajg.prog 22 #[.agg #[.int .u8 (E : Int), .int .u8 (M : Int)], .int .u64 (x : Int)] w fun e w' => e = .returned (.int .i8 (upC E M x)) ∧ Below w.heap.size w w') := classOf_ok E M h x hx
  have hS := sf_box w E M
  obtain ⟨a, b, c, d⟩ := h
  unfold sigB
  have k1 : bits .and .u64 ((x : Int) / 2 ^ (M - 1)) 1 = ((x / 2 ^ (M - 1) &&& 1 : Nat) : Int) := by
    have e : (x : Int) / 2 ^ (M - 1) = ((x / 2 ^ (M - 1) : Nat) : Int) := by push_cast; rfl
    rw [e]; exact and_step _ 1 (Nat.lt_of_le_of_lt (Nat.div_le_self _ _) hx) (by decide)
  have k2 := shr_and_one x (M - 1)
  generalize (x / 2 ^ (M - 1) &&& 1 : Nat) = X1 at k1 k2
  generalize x.testBit (M - 1) = tb at *
  generalize upC E M x = C at *
  have k3 : ((M : Int) - 1).toNat = M - 1 := by omega
  cases hC : (C == 4)
  · go_enter Oajg.func73, Oajg.ntmps73
    go_wp2_with fail
    refine Calls.mono (HU.out _) ?_
    rintro _ w0 ⟨rfl, hb⟩
    replace hS := sf_next hS hb
    clear hb
    go_wp2_with fail
    go_ret
    exact ⟨rfl, hS.2.2.2⟩
  · go_enter Oajg.func73, Oajg.ntmps73
    go_wp2_with fail
    refine Calls.mono (HU.out _) ?_
    rintro _ w0 ⟨rfl, hb⟩
    replace hS := sf_next hS hb
    clear hb
    go_wp2_with fail
    go_ret
    exact ⟨rfl, hS.2.2.2⟩

set_option maxRecDepth 100000 in
set_option maxHeartbeats 2000000 in
theorem nanFlagsL_ok (E M : Nat) (h : FOk E M) (x : Nat) (hx : x < 18446744073709551616) (w : World) :
    Calls Oajg.prog 24 #[.agg #[.int .u8 (E : Int), .int .u8 (M : Int)], .int .u64 (x : Int), .int .u64 (x : Int)] w fun e w' => e = .returned (.int .u8 (hdI E M x)) ∧ Below w.heap.size w w' := by
  have HX : Hid (∀ w, Calls Oajg.prog 73 #[.agg #[.int .u8 (E : Int), .int .u8 (M : Int)], .int .u64 (x : Int)] w fun e w' => e = .returned (.bool (sigB E M x)) ∧ Below w.heap.size w w') := signalL_ok E M h x hx
  have hS := sf_box w E M
  clear h
  unfold hdI
  generalize sigB E M x = s at *
  cases s with
  | true =>
    go_enter Oajg.func24, Oajg.ntmps24
    go_wp2_with fail
    refine Calls.mono (HX.out _) ?_
    rintro _ w0 ⟨rfl, hb⟩
    replace hS := sf_next hS hb
    clear hb
    go_wp2_with fail
    go_ret
    exact ⟨rfl, hS.2.2.2⟩
  | false =>
    go_enter Oajg.func24, Oajg.ntmps24
    go_wp2_with fail
    refine Calls.mono (HX.out _) ?_
    rintro _ w0 ⟨rfl, hb⟩
    replace hS := sf_next hS hb
    clear hb
    go_wp2_with fail
    refine Calls.mono (HX.out _) ?_
    rintro _ w0 ⟨rfl, hb⟩
    replace hS := sf_next hS hb
    clear hb
    go_wp2_with fail
    go_ret
    exact ⟨rfl, hS.2.2.2⟩

set_option maxRecDepth 100000 in
set_option maxHeartbeats 2000000 in
theorem cutTo_ok (E M : Nat) (h : FOk E M) (x : Nat) (hx : x < 18446744073709551616) (w : World) :
    Calls Oajg.prog 25 #[.agg #[.int .u8 (E : Int), .int .u8 (M : Int)], .int .u64 (x : Int)] w fun e w' => e = .returned (.int .u64 ((x % 2 ^ (E + M + 1) : Nat) : Int)) ∧ Below w.heap.size w w' := by
  have hS := sf_box w E M
  obtain ⟨a, b, c, d⟩ := h
  obtain ⟨t, ht⟩ : ∃ t, t = E + M + 1 := ⟨_, rfl⟩
  obtain ⟨s, hs⟩ : ∃ s, s = 64 - t := ⟨_, rfl⟩
  have kt : (1 : Int) + (E : Int) + (M : Int) = (t : Int) := by omega
  have ks : (64 : Int) - (t : Int) = (s : Int) := by omega
  rw [← ht]
  have e64 : (18446744073709551616 : Nat) = 2 ^ t * 2 ^ s := by rw [← Nat.pow_add, show t + s = 64 by omega]
  have kz : IntKind.u64.wrap ((x : Int) * 2 ^ s) / 2 ^ s = ((x % 2 ^ t : Nat) : Int) := by
    have e1 : ((x * 2 ^ s : Nat) : Int) = (x : Int) * 2 ^ s := by push_cast; rfl
    have e2 : ((2 ^ s : Nat) : Int) = (2 : Int) ^ s := by push_cast; rfl
    have e3 : x * 2 ^ s % 18446744073709551616 = x % 2 ^ t * 2 ^ s := by rw [e64, Nat.mul_mod_mul_right]
    have e4 : IntKind.u64.wrap (((x * 2 ^ s : Nat)) : Int) = ((x % 2 ^ t * 2 ^ s : Nat) : Int) := by rw [IntKind.wrap_u64, ← e3]; rfl
    rw [← e1, e4, ← e2, ← Int.natCast_ediv, Nat.mul_div_cancel _ (pp s)]
  have hs63 : s ≤ 63 := by omega
  have ht64 : t ≤ 64 := by omega
  clear e64 ht hs
  generalize x % 2 ^ t = Z at *
  go_enter Oajg.func25, Oajg.ntmps25
  go_wp2_with fail
  go_ret
  exact ⟨by first | rfl | (rw [kz]), hS.2.2.2⟩

set_option maxRecDepth 100000 in
set_option maxHeartbeats 2000000 in
theorem one_ok (w : World) : Calls Oajg.prog 77 #[] w fun e w' => ∃ ad k c, e = .returned (.slice ad k c) ∧ NatIs 2 w' (.slice ad k c) 1 ∧ Below w.heap.size w w' := by
  have HF : Hid (∀ w, Calls Oajg.prog 60 #[.int .u64 1] w fun e w' => ∃ ad k c, e = .returned (.slice ad k c) ∧ NatIs 2 w' (.slice ad k c) 1 ∧ Below w.heap.size w w') := fun w => shaped (fromU64_any 1 (by decide) (by decide) w)
  go_enter Oajg.func77, Oajg.ntmps77
  go_wp2_with fail
  refine Calls.mono (HF.out _) ?_
  rintro _ w1 ⟨ad, k, c, rfl, hN, hb⟩
  have HN : Hid (NatIs 2 w1 (.slice ad k c) 1) := hN
  have HB : Hid (Below w.heap.size w w1) := hb
  clear hN hb
  go_wp2_with fail
  go_ret
  exact ⟨_, _, _, rfl, HN.out, HB.out⟩

set_option maxRecDepth 100000 in
set_option maxHeartbeats 2000000 in
theorem pow2L_ok (K : Int) (hK0 : -65535 ≤ K) (hK1 : K ≤ 65535) (w : World) :
    Calls Oajg.prog 28 #[.int .i64 K] w fun e w' => ∃ a1 k1 c1 a2 k2 c2, e = .returned (.agg #[.bool false, .slice a1 k1 c1, .slice a2 k2 c2]) ∧ NatIs 2050 w' (.slice a1 k1 c1) (2 ^ K.toNat) ∧ NatIs 2050 w' (.slice a2 k2 c2) (2 ^ (-K).toNat) ∧ Below w.heap.size w w' := by
  have HO : Hid (∀ w, Calls Oajg.prog 77 #[] w fun e w' => ∃ ad k c, e = .returned (.slice ad k c) ∧ NatIs 2 w' (.slice ad k c) 1 ∧ Below w.heap.size w w') := one_ok
  have hR := bx3_made w (m := w.heap.size) (.bool false) (.slice none 0 0) (.slice none 0 0) 48 rfl
  have HB : Hid (Below w.heap.size w (w.alloc (.cells #[.bool false, .slice none 0 0, .slice none 0 0] 48))) := (Below.refl _ _).alloc (Nat.le_refl _) _
  by_cases hk : K < 0
  · have HSH : Hid (∀ w ad k c, NatIs 2 w (.slice ad k c) 1 → Calls Oajg.prog 78 #[.slice ad k c, .int .u16 (-K)] w fun e w' => ∃ ad k c, e = .returned (.slice ad k c) ∧ NatIs 2050 w' (.slice ad k c) (2 ^ (-K).toNat) ∧ Below w.heap.size w w') := fun w ad k c h => by
      have := shaped (shl_any 2 (.slice ad k c) 1 (-K) w h (by decide) (by omega) (by omega))
      rw [Nat.one_mul] at this; exact this
    go_enter Oajg.func28, Oajg.ntmps28
    go_wp2_with fail
    refine Calls.mono (HO.out _) ?_
    rintro _ w1 ⟨a1, k1, c1, rfl, hN1, hb⟩
    replace hR := bx3_next hR hb
    have HB1 : Hid (Below w.heap.size w w1) := below_then HB.out hb
    have HN1 : Hid (NatIs 2 w1 (.slice a1 k1 c1) 1) := hN1
    clear hb hN1
    go_wp2_with fail
    refine Calls.mono (HO.out _) ?_
    rintro _ w2 ⟨a2, k2, c2, rfl, hN2, hb⟩
    replace hR := bx3_next hR hb
    have HB2 : Hid (Below w.heap.size w w2) := below_then HB1.out hb
    have HN1b : Hid (NatIs 2 w2 (.slice a1 k1 c1) 1) := HN1.out.kept hb
    have HSH1 : Hid (Calls Oajg.prog 78 #[.slice a2 k2 c2, .int .u16 (-K)] w2 fun e w' => ∃ ad k c, e = .returned (.slice ad k c) ∧ NatIs 2050 w' (.slice ad k c) (2 ^ (-K).toNat) ∧ Below w2.heap.size w2 w') := HSH.out w2 _ _ _ hN2
    clear hb hN2 HB1 HN1
    go_wp2_with fail
    refine Calls.mono HSH1.out ?_
    rintro _ w3 ⟨a3, k3, c3, rfl, hN3, hb⟩
    replace hR := bx3_next hR hb
    have HB3 : Hid (Below w.heap.size w w3) := below_then HB2.out hb
    have HNa : Hid (NatIs 2050 w3 (.slice a1 k1 c1) (2 ^ K.toNat)) := by show NatIs _ _ _ _; rw [show K.toNat = 0 by omega, Nat.pow_zero]; exact (HN1b.out.kept hb).mono (by decide)
    have HNb : Hid (NatIs 2050 w3 (.slice a3 k3 c3) (2 ^ (-K).toNat)) := hN3
    clear hb hN3 HSH1 HB2 HN1b
    go_wp2_with fail
    have hkp := store3 hR (not32_bool _) (not32_slice _ _ _) (not32_slice _ _ _) (.bool false) (.slice a1 k1 c1) (.slice a3 k3 c3)
    refine bodyPost_ret (v := .agg #[.bool false, .slice a1 k1 c1, .slice a3 k3 c3]) (by simp [results, Oajg.results28, go_sem, hR]) rfl ⟨_, _, _, _, _, _, rfl, HNa.out.kp hkp, HNb.out.kp hkp, ?_⟩
    exact ((HB3.out.setCell (Nat.le_refl _) _).setCell (Nat.le_refl _) _).setCell (Nat.le_refl _) _
  · have HSH : Hid (∀ w ad k c, NatIs 2 w (.slice ad k c) 1 → Calls Oajg.prog 78 #[.slice ad k c, .int .u16 K] w fun e w' => ∃ ad k c, e = .returned (.slice ad k c) ∧ NatIs 2050 w' (.slice ad k c) (2 ^ K.toNat) ∧ Below w.heap.size w w') := fun w ad k c h => by
      have := shaped (shl_any 2 (.slice ad k c) 1 K w h (by decide) (by omega) (by omega))
      rw [Nat.one_mul] at this; exact this
    go_enter Oajg.func28, Oajg.ntmps28
    go_wp2_with fail
    refine Calls.mono (HO.out _) ?_
    rintro _ w1 ⟨a1, k1, c1, rfl, hN1, hb⟩
    replace hR := bx3_next hR hb
    have HB1 : Hid (Below w.heap.size w w1) := below_then HB.out hb
    have HSH1 : Hid (Calls Oajg.prog 78 #[.slice a1 k1 c1, .int .u16 K] w1 fun e w' => ∃ ad k c, e = .returned (.slice ad k c) ∧ NatIs 2050 w' (.slice ad k c) (2 ^ K.toNat) ∧ Below w1.heap.size w1 w') := HSH.out w1 _ _ _ hN1
    clear hb hN1
    go_wp2_with fail
    refine Calls.mono HSH1.out ?_
    rintro _ w2 ⟨a2, k2, c2, rfl, hN2, hb⟩
    replace hR := bx3_next hR hb
    have HB2 : Hid (Below w.heap.size w w2) := below_then HB1.out hb
    have HN2 : Hid (NatIs 2050 w2 (.slice a2 k2 c2) (2 ^ K.toNat)) := hN2
    clear hb hN2 HB1 HSH1
    go_wp2_with fail
    refine Calls.mono (HO.out _) ?_
    rintro _ w3 ⟨a3, k3, c3, rfl, hN3, hb⟩
    replace hR := bx3_next hR hb
    have HB3 : Hid (Below w.heap.size w w3) := below_then HB2.out hb
    have HNa : Hid (NatIs 2050 w3 (.slice a2 k2 c2) (2 ^ K.toNat)) := HN2.out.kept hb
    have HNb : Hid (NatIs 2050 w3 (.slice a3 k3 c3) (2 ^ (-K).toNat)) := by show NatIs _ _ _ _; rw [show (-K).toNat = 0 by omega, Nat.pow_zero]; exact hN3.mono (by decide)
    clear hb hN3 HB2 HN2
    go_wp2_with fail
    have hkp := store3 hR (not32_bool _) (not32_slice _ _ _) (not32_slice _ _ _) (.bool false) (.slice a2 k2 c2) (.slice a3 k3 c3)
    refine bodyPost_ret (v := .agg #[.bool false, .slice a2 k2 c2, .slice a3 k3 c3]) (by simp [results, Oajg.results28, go_sem, hR]) rfl ⟨_, _, _, _, _, _, rfl, HNa.out.kp hkp, HNb.out.kp hkp, ?_⟩
    exact ((HB3.out.setCell (Nat.le_refl _) _).setCell (Nat.le_refl _) _).setCell (Nat.le_refl _) _

set_option maxRecDepth 100000 in
set_option maxHeartbeats 2000000 in
theorem cmpSize_ok (N1 N2 : Bool) (a1 a2 a3 a4 : Option Addr) (k1 c1 k2 c2 k3 c3 k4 c4 B n1 d1 n2 d2 : Nat) (w : World) (h1 : NatIs B w (.slice a1 k1 c1) n1) (h2 : NatIs B w (.slice a2 k2 c2) d1) (h3 : NatIs B w (.slice a3 k3 c3) n2) (h4 : NatIs B w (.slice a4 k4 c4) d2) (hB : B ≤ 1000000) :
    Calls Oajg.prog 31 #[.agg #[.bool N1, .slice a1 k1 c1, .slice a2 k2 c2], .agg #[.bool N2, .slice a3 k3 c3, .slice a4 k4 c4]] w fun e w' => e = .returned (.int .i8 (cmpZ (n1 * d2) (n2 * d1))) ∧ Below w.heap.size w w' := by
  have HM1 : Hid (∀ W, ((W.cell? ⟨w.heap.size, 0, none⟩ = some (.bool N1) ∧ W.cell? ⟨w.heap.size, 1, none⟩ = some (.slice a1 k1 c1) ∧ W.cell? ⟨w.heap.size, 2, none⟩ = some (.slice a2 k2 c2) ∧ (∀ o, W.frozen? ⟨w.heap.size, o, none⟩ = false) ∧ w.heap.size < W.heap.size) ∧ (W.cell? ⟨(w.heap.size + 1), 0, none⟩ = some (.bool N2) ∧ W.cell? ⟨(w.heap.size + 1), 1, none⟩ = some (.slice a3 k3 c3) ∧ W.cell? ⟨(w.heap.size + 1), 2, none⟩ = some (.slice a4 k4 c4) ∧ (∀ o, W.frozen? ⟨(w.heap.size + 1), o, none⟩ = false) ∧ (w.heap.size + 1) < W.heap.size) ∧ Below w.heap.size w W) → Calls Oajg.prog 62 #[.slice a1 k1 c1, .slice a4 k4 c4] W fun e w' => ∃ ad k c, e = .returned (.slice ad k c) ∧ NatIs (B + B) w' (.slice ad k c) (n1 * d2) ∧ Below W.heap.size W w') := fun W hW => shaped (mul_any B B _ _ n1 d2 W (h1.kp (Kp.of hW.2.2)) (h4.kp (Kp.of hW.2.2)) (by omega) (by omega))
  have HM2 : Hid (∀ W, ((W.cell? ⟨w.heap.size, 0, none⟩ = some (.bool N1) ∧ W.cell? ⟨w.heap.size, 1, none⟩ = some (.slice a1 k1 c1) ∧ W.cell? ⟨w.heap.size, 2, none⟩ = some (.slice a2 k2 c2) ∧ (∀ o, W.frozen? ⟨w.heap.size, o, none⟩ = false) ∧ w.heap.size < W.heap.size) ∧ (W.cell? ⟨(w.heap.size + 1), 0, none⟩ = some (.bool N2) ∧ W.cell? ⟨(w.heap.size + 1), 1, none⟩ = some (.slice a3 k3 c3) ∧ W.cell? ⟨(w.heap.size + 1), 2, none⟩ = some (.slice a4 k4 c4) ∧ (∀ o, W.frozen? ⟨(w.heap.size + 1), o, none⟩ = false) ∧ (w.heap.size + 1) < W.heap.size) ∧ Below w.heap.size w W) → Calls Oajg.prog 62 #[.slice a3 k3 c3, .slice a2 k2 c2] W fun e w' => ∃ ad k c, e = .returned (.slice ad k c) ∧ NatIs (B + B) w' (.slice ad k c) (n2 * d1) ∧ Below W.heap.size W w') := fun W hW => shaped (mul_any B B _ _ n2 d1 W (h3.kp (Kp.of hW.2.2)) (h2.kp (Kp.of hW.2.2)) (by omega) (by omega))
  have HCC : Hid (∀ W b1 l1 e1 b2 l2 e2, NatIs (B + B) W (.slice b1 l1 e1) (n1 * d2) → NatIs (B + B) W (.slice b2 l2 e2) (n2 * d1) → Calls Oajg.prog 82 #[.slice b1 l1 e1, .slice b2 l2 e2] W fun e w' => e = .returned (.int .i8 (cmpZ (n1 * d2) (n2 * d1))) ∧ Below W.heap.size W w') := fun W b1 l1 e1 b2 l2 e2 hx hy => cmp_any (B + B) (B + B) _ _ _ _ W hx hy (by omega) (by omega)
  clear h1 h2 h3 h4
  have hQ : (((w.alloc (.cells #[.bool N1, .slice a1 k1 c1, .slice a2 k2 c2] 48)).alloc (.cells #[.bool N2, .slice a3 k3 c3, .slice a4 k4 c4] 48)).cell? ⟨w.heap.size, 0, none⟩ = some (.bool N1) ∧ ((w.alloc (.cells #[.bool N1, .slice a1 k1 c1, .slice a2 k2 c2] 48)).alloc (.cells #[.bool N2, .slice a3 k3 c3, .slice a4 k4 c4] 48)).cell? ⟨w.heap.size, 1, none⟩ = some (.slice a1 k1 c1) ∧ ((w.alloc (.cells #[.bool N1, .slice a1 k1 c1, .slice a2 k2 c2] 48)).alloc (.cells #[.bool N2, .slice a3 k3 c3, .slice a4 k4 c4] 48)).cell? ⟨w.heap.size, 2, none⟩ = some (.slice a2 k2 c2) ∧ (∀ o, ((w.alloc (.cells #[.bool N1, .slice a1 k1 c1, .slice a2 k2 c2] 48)).alloc (.cells #[.bool N2, .slice a3 k3 c3, .slice a4 k4 c4] 48)).frozen? ⟨w.heap.size, o, none⟩ = false) ∧ w.heap.size < ((w.alloc (.cells #[.bool N1, .slice a1 k1 c1, .slice a2 k2 c2] 48)).alloc (.cells #[.bool N2, .slice a3 k3 c3, .slice a4 k4 c4] 48)).heap.size) ∧ (((w.alloc (.cells #[.bool N1, .slice a1 k1 c1, .slice a2 k2 c2] 48)).alloc (.cells #[.bool N2, .slice a3 k3 c3, .slice a4 k4 c4] 48)).cell? ⟨(w.heap.size + 1), 0, none⟩ = some (.bool N2) ∧ ((w.alloc (.cells #[.bool N1, .slice a1 k1 c1, .slice a2 k2 c2] 48)).alloc (.cells #[.bool N2, .slice a3 k3 c3, .slice a4 k4 c4] 48)).cell? ⟨(w.heap.size + 1), 1, none⟩ = some (.slice a3 k3 c3) ∧ ((w.alloc (.cells #[.bool N1, .slice a1 k1 c1, .slice a2 k2 c2] 48)).alloc (.cells #[.bool N2, .slice a3 k3 c3, .slice a4 k4 c4] 48)).cell? ⟨(w.heap.size + 1), 2, none⟩ = some (.slice a4 k4 c4) ∧ (∀ o, ((w.alloc (.cells #[.bool N1, .slice a1 k1 c1, .slice a2 k2 c2] 48)).alloc (.cells #[.bool N2, .slice a3 k3 c3, .slice a4 k4 c4] 48)).frozen? ⟨(w.heap.size + 1), o, none⟩ = false) ∧ (w.heap.size + 1) < ((w.alloc (.cells #[.bool N1, .slice a1 k1 c1, .slice a2 k2 c2] 48)).alloc (.cells #[.bool N2, .slice a3 k3 c3, .slice a4 k4 c4] 48)).heap.size) ∧ Below w.heap.size w ((w.alloc (.cells #[.bool N1, .slice a1 k1 c1, .slice a2 k2 c2] 48)).alloc (.cells #[.bool N2, .slice a3 k3 c3, .slice a4 k4 c4] 48)) := ⟨bx3_alloc (bx3_made w (m := w.heap.size) _ _ _ 48 rfl) _, bx3_made (w.alloc _) (m := w.heap.size + 1) _ _ _ 48 (by simp), ((Below.refl _ _).alloc (Nat.le_refl _) _).alloc (by simp) _⟩
  go_enter Oajg.func31, Oajg.ntmps31
  go_wp2_with fail
  go_region_held3 (fun W => (W.cell? ⟨w.heap.size, 0, none⟩ = some (.bool N1) ∧ W.cell? ⟨w.heap.size, 1, none⟩ = some (.slice a1 k1 c1) ∧ W.cell? ⟨w.heap.size, 2, none⟩ = some (.slice a2 k2 c2) ∧ (∀ o, W.frozen? ⟨w.heap.size, o, none⟩ = false) ∧ w.heap.size < W.heap.size) ∧ (W.cell? ⟨(w.heap.size + 1), 0, none⟩ = some (.bool N2) ∧ W.cell? ⟨(w.heap.size + 1), 1, none⟩ = some (.slice a3 k3 c3) ∧ W.cell? ⟨(w.heap.size + 1), 2, none⟩ = some (.slice a4 k4 c4) ∧ (∀ o, W.frozen? ⟨(w.heap.size + 1), o, none⟩ = false) ∧ (w.heap.size + 1) < W.heap.size) ∧ Below w.heap.size w W)
    ((repeat' (first | with_reducible assumption | with_reducible refine dd_drew ?_)))
    ((first | (go_at_call 62; first | ((with_reducible refine Calls.mono (HM1.out _ ?hh) ?_); (case hh => with_reducible assumption); rintro _ w1 ⟨b1, l1, e1, rfl, hN, hb⟩; have hQ1 := dd_next (by with_reducible assumption) hb; have HX1 : Hid (NatIs (B + B) w1 (.slice b1 l1 e1) (n1 * d2)) := hN; clear hb hN) | ((with_reducible refine Calls.mono (HM2.out _ ?hh) ?_); (case hh => with_reducible assumption); rintro _ w2 ⟨b2, l2, e2, rfl, hN, hb⟩; have hQ2 := dd_next (by with_reducible assumption) hb; have HX2 : Hid (NatIs (B + B) w2 (.slice b1 l1 e1) (n1 * d2)) := HX1.out.kp (Kp.of hb); have HY2 : Hid (NatIs (B + B) w2 (.slice b2 l2 e2) (n2 * d1)) := hN; clear hb hN)) | (go_at_call 82; refine Calls.mono (HCC.out _ _ _ _ _ _ _ HX2.out HY2.out) ?_; rintro _ w3 ⟨rfl, hb⟩; have hQ3 := dd_next (by with_reducible assumption) hb; clear hb)))
  go_wp2_with fail
  go_ret
  exact ⟨rfl, hQ3.2.2⟩

set_option maxRecDepth 100000 in
set_option maxHeartbeats 2000000 in
theorem mulFrac_ok (N1 N2 : Bool) (a1 a2 a3 a4 : Option Addr) (k1 c1 k2 c2 k3 c3 k4 c4 B n1 d1 n2 d2 : Nat) (w : World) (h1 : NatIs B w (.slice a1 k1 c1) n1) (h2 : NatIs B w (.slice a2 k2 c2) d1) (h3 : NatIs B w (.slice a3 k3 c3) n2) (h4 : NatIs B w (.slice a4 k4 c4) d2) (hB : B ≤ 1000000) :
    Calls Oajg.prog 27 #[.agg #[.bool N1, .slice a1 k1 c1, .slice a2 k2 c2], .agg #[.bool N2, .slice a3 k3 c3, .slice a4 k4 c4]] w fun e w' => ∃ b1 l1 e1 b2 l2 e2, e = .returned (.agg #[.bool (N1 != N2), .slice b1 l1 e1, .slice b2 l2 e2]) ∧ NatIs (B + B) w' (.slice b1 l1 e1) (n1 * n2) ∧ NatIs (B + B) w' (.slice b2 l2 e2) (d1 * d2) ∧ Below w.heap.size w w' := by
  have HM1 : Hid (∀ W, ((W.cell? ⟨w.heap.size, 0, none⟩ = some (.bool N1) ∧ W.cell? ⟨w.heap.size, 1, none⟩ = some (.slice a1 k1 c1) ∧ W.cell? ⟨w.heap.size, 2, none⟩ = some (.slice a2 k2 c2) ∧ (∀ o, W.frozen? ⟨w.heap.size, o, none⟩ = false) ∧ w.heap.size < W.heap.size) ∧ (W.cell? ⟨(w.heap.size + 1), 0, none⟩ = some (.bool N2) ∧ W.cell? ⟨(w.heap.size + 1), 1, none⟩ = some (.slice a3 k3 c3) ∧ W.cell? ⟨(w.heap.size + 1), 2, none⟩ = some (.slice a4 k4 c4) ∧ (∀ o, W.frozen? ⟨(w.heap.size + 1), o, none⟩ = false) ∧ (w.heap.size + 1) < W.heap.size) ∧ Below w.heap.size w W) → Calls Oajg.prog 62 #[.slice a1 k1 c1, .slice a3 k3 c3] W fun e w' => ∃ ad k c, e = .returned (.slice ad k c) ∧ NatIs (B + B) w' (.slice ad k c) (n1 * n2) ∧ Below W.heap.size W w') := fun W hW => shaped (mul_any B B _ _ n1 n2 W (h1.kp (Kp.of hW.2.2)) (h3.kp (Kp.of hW.2.2)) (by omega) (by omega))
  have HM2 : Hid (∀ W, ((W.cell? ⟨w.heap.size, 0, none⟩ = some (.bool N1) ∧ W.cell? ⟨w.heap.size, 1, none⟩ = some (.slice a1 k1 c1) ∧ W.cell? ⟨w.heap.size, 2, none⟩ = some (.slice a2 k2 c2) ∧ (∀ o, W.frozen? ⟨w.heap.size, o, none⟩ = false) ∧ w.heap.size < W.heap.size) ∧ (W.cell? ⟨(w.heap.size + 1), 0, none⟩ = some (.bool N2) ∧ W.cell? ⟨(w.heap.size + 1), 1, none⟩ = some (.slice a3 k3 c3) ∧ W.cell? ⟨(w.heap.size + 1), 2, none⟩ = some (.slice a4 k4 c4) ∧ (∀ o, W.frozen? ⟨(w.heap.size + 1), o, none⟩ = false) ∧ (w.heap.size + 1) < W.heap.size) ∧ Below w.heap.size w W) → Calls Oajg.prog 62 #[.slice a2 k2 c2, .slice a4 k4 c4] W fun e w' => ∃ ad k c, e = .returned (.slice ad k c) ∧ NatIs (B + B) w' (.slice ad k c) (d1 * d2) ∧ Below W.heap.size W w') := fun W hW => shaped (mul_any B B _ _ d1 d2 W (h2.kp (Kp.of hW.2.2)) (h4.kp (Kp.of hW.2.2)) (by omega) (by omega))
  clear h1 h2 h3 h4
  have hQ : ((((w.alloc (.cells #[.bool N1, .slice a1 k1 c1, .slice a2 k2 c2] 48)).alloc (.cells #[.bool N2, .slice a3 k3 c3, .slice a4 k4 c4] 48)).alloc (.cells #[.bool false, .slice none 0 0, .slice none 0 0] 48)).cell? ⟨w.heap.size, 0, none⟩ = some (.bool N1) ∧ (((w.alloc (.cells #[.bool N1, .slice a1 k1 c1, .slice a2 k2 c2] 48)).alloc (.cells #[.bool N2, .slice a3 k3 c3, .slice a4 k4 c4] 48)).alloc (.cells #[.bool false, .slice none 0 0, .slice none 0 0] 48)).cell? ⟨w.heap.size, 1, none⟩ = some (.slice a1 k1 c1) ∧ (((w.alloc (.cells #[.bool N1, .slice a1 k1 c1, .slice a2 k2 c2] 48)).alloc (.cells #[.bool N2, .slice a3 k3 c3, .slice a4 k4 c4] 48)).alloc (.cells #[.bool false, .slice none 0 0, .slice none 0 0] 48)).cell? ⟨w.heap.size, 2, none⟩ = some (.slice a2 k2 c2) ∧ (∀ o, (((w.alloc (.cells #[.bool N1, .slice a1 k1 c1, .slice a2 k2 c2] 48)).alloc (.cells #[.bool N2, .slice a3 k3 c3, .slice a4 k4 c4] 48)).alloc (.cells #[.bool false, .slice none 0 0, .slice none 0 0] 48)).frozen? ⟨w.heap.size, o, none⟩ = false) ∧ w.heap.size < (((w.alloc (.cells #[.bool N1, .slice a1 k1 c1, .slice a2 k2 c2] 48)).alloc (.cells #[.bool N2, .slice a3 k3 c3, .slice a4 k4 c4] 48)).alloc (.cells #[.bool false, .slice none 0 0, .slice none 0 0] 48)).heap.size) ∧ ((((w.alloc (.cells #[.bool N1, .slice a1 k1 c1, .slice a2 k2 c2] 48)).alloc (.cells #[.bool N2, .slice a3 k3 c3, .slice a4 k4 c4] 48)).alloc (.cells #[.bool false, .slice none 0 0, .slice none 0 0] 48)).cell? ⟨(w.heap.size + 1), 0, none⟩ = some (.bool N2) ∧ (((w.alloc (.cells #[.bool N1, .slice a1 k1 c1, .slice a2 k2 c2] 48)).alloc (.cells #[.bool N2, .slice a3 k3 c3, .slice a4 k4 c4] 48)).alloc (.cells #[.bool false, .slice none 0 0, .slice none 0 0] 48)).cell? ⟨(w.heap.size + 1), 1, none⟩ = some (.slice a3 k3 c3) ∧ (((w.alloc (.cells #[.bool N1, .slice a1 k1 c1, .slice a2 k2 c2] 48)).alloc (.cells #[.bool N2, .slice a3 k3 c3, .slice a4 k4 c4] 48)).alloc (.cells #[.bool false, .slice none 0 0, .slice none 0 0] 48)).cell? ⟨(w.heap.size + 1), 2, none⟩ = some (.slice a4 k4 c4) ∧ (∀ o, (((w.alloc (.cells #[.bool N1, .slice a1 k1 c1, .slice a2 k2 c2] 48)).alloc (.cells #[.bool N2, .slice a3 k3 c3, .slice a4 k4 c4] 48)).alloc (.cells #[.bool false, .slice none 0 0, .slice none 0 0] 48)).frozen? ⟨(w.heap.size + 1), o, none⟩ = false) ∧ (w.heap.size + 1) < (((w.alloc (.cells #[.bool N1, .slice a1 k1 c1, .slice a2 k2 c2] 48)).alloc (.cells #[.bool N2, .slice a3 k3 c3, .slice a4 k4 c4] 48)).alloc (.cells #[.bool false, .slice none 0 0, .slice none 0 0] 48)).heap.size) ∧ Below w.heap.size w (((w.alloc (.cells #[.bool N1, .slice a1 k1 c1, .slice a2 k2 c2] 48)).alloc (.cells #[.bool N2, .slice a3 k3 c3, .slice a4 k4 c4] 48)).alloc (.cells #[.bool false, .slice none 0 0, .slice none 0 0] 48)) :=
    dd_alloc ⟨bx3_alloc (bx3_made w (m := w.heap.size) _ _ _ 48 rfl) _, bx3_made (w.alloc _) (m := w.heap.size + 1) _ _ _ 48 (by simp), ((Below.refl _ _).alloc (Nat.le_refl _) _).alloc (by simp) _⟩ _
  have hR := bx3_made ((w.alloc (.cells #[.bool N1, .slice a1 k1 c1, .slice a2 k2 c2] 48)).alloc (.cells #[.bool N2, .slice a3 k3 c3, .slice a4 k4 c4] 48)) (m := w.heap.size + 1 + 1) (.bool false) (.slice none 0 0) (.slice none 0 0) 48 (by simp)
  obtain ⟨NX, hNX⟩ : ∃ NX, (!(N1 == N2)) = NX := ⟨_, rfl⟩
  rw [show (N1 != N2) = NX from hNX]
  go_enter Oajg.func27, Oajg.ntmps27
  go_wp2_with fail
  go_region_held3 (fun W => (W.cell? ⟨w.heap.size, 0, none⟩ = some (.bool N1) ∧ W.cell? ⟨w.heap.size, 1, none⟩ = some (.slice a1 k1 c1) ∧ W.cell? ⟨w.heap.size, 2, none⟩ = some (.slice a2 k2 c2) ∧ (∀ o, W.frozen? ⟨w.heap.size, o, none⟩ = false) ∧ w.heap.size < W.heap.size) ∧ (W.cell? ⟨(w.heap.size + 1), 0, none⟩ = some (.bool N2) ∧ W.cell? ⟨(w.heap.size + 1), 1, none⟩ = some (.slice a3 k3 c3) ∧ W.cell? ⟨(w.heap.size + 1), 2, none⟩ = some (.slice a4 k4 c4) ∧ (∀ o, W.frozen? ⟨(w.heap.size + 1), o, none⟩ = false) ∧ (w.heap.size + 1) < W.heap.size) ∧ Below w.heap.size w W)
    ((repeat' (first | with_reducible assumption | with_reducible refine dd_drew ?_ | with_reducible refine dd_store ?_ ?_ | (simp only [World.size_alloc, World.size_drew, World.size_setCell]; omega) | omega)))
    ((go_at_call 62; first | ((with_reducible refine Calls.mono (HM1.out _ ?hh) ?_); (case hh => with_reducible assumption); rintro _ w1 ⟨b1, l1, e1, rfl, hN, hb⟩; have hQ1 := dd_next (by with_reducible assumption) hb; have hR1 := bx3_next (bx3_drew hR) hb; have HX1 : Hid (NatIs (B + B) w1 (.slice b1 l1 e1) (n1 * n2)) := hN; clear hb hN) | ((with_reducible refine Calls.mono (HM2.out _ ?hh) ?_); (case hh => with_reducible assumption); rintro _ w2 ⟨b2, l2, e2, rfl, hN, hb⟩; have hQ2 := dd_next (by with_reducible assumption) hb; have hR2 := bx3_next hR1 hb; have HX2 : Hid (NatIs (B + B) w2 (.slice b1 l1 e1) (n1 * n2)) := HX1.out.kp (Kp.of hb); have HY2 : Hid (NatIs (B + B) w2 (.slice b2 l2 e2) (d1 * d2)) := hN; clear hb hN)))
  go_wp2_with fail
  have hkp := store3 hR2 (not32_bool _) (not32_slice _ _ _) (not32_slice _ _ _) (.bool NX) (.slice b1 l1 e1) (.slice b2 l2 e2)
  refine bodyPost_ret (v := .agg #[.bool NX, .slice b1 l1 e1, .slice b2 l2 e2]) (by simp [results, Oajg.results27, go_sem, hR2]) rfl ⟨_, _, _, _, _, _, rfl, HX2.out.kp hkp, HY2.out.kp hkp, ?_⟩
  exact ((hQ2.2.2.setCell (Nat.le_add_right _ 2) _).setCell (Nat.le_add_right _ 2) _).setCell (Nat.le_add_right _ 2) _

theorem kp_two {w : World} (o1 o2 : Obj) : Kp w ((w.alloc o1).alloc o2) := ((Kp.refl w).alloc o1).alloc o2
set_option maxRecDepth 100000 in
set_option maxHeartbeats 2000000 in
theorem roundL_ok (E M : Nat) (h : FOk E M) (mo : Nat) (neg : Bool) (B n d : Nat) (a1 a2 : Option Addr) (k1 c1 k2 c2 : Nat) (w : World) (h1 : NatIs B w (.slice a1 k1 c1) n) (h2 : NatIs B w (.slice a2 k2 c2) d) (hB : B ≤ 1000000) (hd : d ≠ 0) :
    Calls Oajg.prog 29 #[.agg #[.int .u8 (E : Int), .int .u8 (M : Int)], .int .u8 (mo : Int), .agg #[.bool neg, .slice a1 k1 c1, .slice a2 k2 c2]] w fun e w' => e = .returned (.int .u64 (rfN E M mo neg n d : Nat)) ∧ Below w.heap.size w w' := by
  have hF := sf_alloc (sf_box w E M) (.cells #[.bool neg, .slice a1 k1 c1, .slice a2 k2 c2] 48)
  have hT := bx3_made (w.alloc (.cells #[.int .u8 (E : Int), .int .u8 (M : Int)] 23)) (m := w.heap.size + 1) (.bool neg) (.slice a1 k1 c1) (.slice a2 k2 c2) 48 (by simp)
  have HR : Hid (∀ W, Kp w W → Calls Oajg.prog 67 #[.agg #[.int .u8 (E : Int), .int .u8 (M : Int)], .int .u8 (mo : Int), .agg #[.bool neg, .slice a1 k1 c1, .slice a2 k2 c2]] W fun e w' => e = .returned (.tuple #[.int .u64 (rfN E M mo neg n d : Nat), .int .u8 (rfF E M mo neg n d : Nat)]) ∧ Below W.heap.size W w') := fun W hW => roundFlags_ok E M h mo neg B n d a1 a2 k1 c1 k2 c2 W (h1.kp hW) (h2.kp hW) hB hd
  clear h h1 h2
  generalize rfN E M mo neg n d = RN at *
  generalize rfF E M mo neg n d = RF at *
  go_enter Oajg.func29, Oajg.ntmps29
  go_wp2_with fail
  refine Calls.mono (HR.out _ (kp_two _ _)) ?_
  rintro _ w1 ⟨rfl, hb⟩
  replace hF := sf_next hF hb
  clear hb
  go_wp2_with fail
  go_ret
  exact ⟨rfl, hF.2.2.2⟩

end Go.Proofs.Ygcoaj
