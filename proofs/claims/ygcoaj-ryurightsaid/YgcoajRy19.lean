/-
  WALKS: tab.entry (61), tab.Entry (109).
-/
import Derived.Test.YgcoajRy17
import Derived.Test.YgcoajRy18
set_option linter.unusedVariables false
set_option linter.unusedSimpArgs false
namespace Go.Proofs.Ygcoaj
open Go.RowKit

theorem bx2_put {W : World} {m : Nat} {u0 u1 : Value} (h : W.cell? ⟨m, 0, none⟩ = some u0 ∧ W.cell? ⟨m, 1, none⟩ = some u1 ∧ (∀ o, W.frozen? ⟨m, o, none⟩ = false) ∧ m < W.heap.size) (x y : Value) :
    ((W.setCell ⟨m, 0, none⟩ x).setCell ⟨m, 1, none⟩ y).cell? ⟨m, 0, none⟩ = some x ∧ ((W.setCell ⟨m, 0, none⟩ x).setCell ⟨m, 1, none⟩ y).cell? ⟨m, 1, none⟩ = some y ∧ (∀ o, ((W.setCell ⟨m, 0, none⟩ x).setCell ⟨m, 1, none⟩ y).frozen? ⟨m, o, none⟩ = false) ∧ m < ((W.setCell ⟨m, 0, none⟩ x).setCell ⟨m, 1, none⟩ y).heap.size := by
  refine ⟨?_, ?_, ?_, ?_⟩ <;> simp [go_sem, h]

theorem bits5 (U : Nat) : bitLen (5 ^ U) ≤ 3 * U + 1 := by
  refine bitLen_le_of_lt ?_
  have h : 5 ^ U ≤ 8 ^ U := Nat.pow_le_pow_left (by decide) U
  rw [show (8 : Nat) = 2 ^ 3 from rfl, ← Nat.pow_mul] at h
  exact Nat.lt_of_le_of_lt h (Nat.pow_lt_pow_right (by decide) (by omega))

set_option maxRecDepth 100000 in
set_option maxHeartbeats 4000000 in
theorem entry_ok (q : Int) (hq1 : -348 ≤ q) (hq2 : q ≤ 347) (B : Nat) (hB : B ≤ 10000) (ad : Option Addr) (k c : Nat) (w : World) (hN : NatIs B w (.slice ad k c) (5 ^ q.natAbs)) :
    Calls Oajg.prog 61 #[.slice ad k c, .int .i16 q] w fun e w' => e = .returned (.tuple #[.agg #[.int .u64 ((tnM q / 18446744073709551616 : Nat) : Int), .int .u64 ((tnM q % 18446744073709551616 : Nat) : Int)], .int .i16 (tnE q)]) ∧ Below w.heap.size w w' := by
  have hfit := fits_all hq1 hq2
  have hS := bx2_made w (m := w.heap.size) (.int .u64 0) (.int .u64 0) 88 rfl
  have HB0 := hid_mk (show Below w.heap.size w (w.alloc (.cells #[.int .u64 0, .int .u64 0] 88)) from (Below.refl _ _).alloc (Nat.le_refl _) _)
  have HN := hid_mk (hN.kept ((Below.refl _ _).alloc (Nat.le_refl _) (.cells #[.int .u64 0, .int .u64 0] 88)))
  have hbl := bits5 q.natAbs
  have HP0 := hid_mk (p5_ne q.natAbs)
  obtain ⟨H, HH⟩ : ∃ H, Hid (tnM q / 18446744073709551616 = H) := ⟨_, rfl⟩
  obtain ⟨L, HL⟩ : ∃ L, Hid (tnM q % 18446744073709551616 = L) := ⟨_, rfl⟩
  obtain ⟨E, HE⟩ : ∃ E, Hid (tnE q = E) := ⟨_, rfl⟩
  have HLO : Hid (∀ (W : World) (ad : Option Addr) (k c : Nat), NatIs 20000 W (.slice ad k c) (tnM q) → Calls Oajg.prog 114 #[.slice ad k c] W fun e w' => e = .returned (.agg #[.int .u64 (H : Int), .int .u64 (L : Int)]) ∧ Below W.heap.size W w') := fun W ad k c h => by
    have := low128_ok 20000 ad k c (tnM q) W (by decide) h (by omega) (by omega)
    rw [HH.out, HL.out] at this
    exact this
  clear hN
  by_cases hneg : q < 0
  · obtain ⟨U, hU⟩ : ∃ U : Nat, (U : Int) = -q := ⟨(-q).toNat, by omega⟩
    have hUa : q.natAbs = U := by omega
    have hUt : (-q).toNat = U := by omega
    rw [hUa] at HN hbl HP0
    have e1 : tnM q = 2 ^ (127 + bitLen (5 ^ U)) / 5 ^ U := by unfold tnM; rw [if_pos hneg, hUt]
    have e2 : tnE q = q - ((127 + bitLen (5 ^ U) : Nat) : Int) := by unfold tnE; rw [if_pos hneg, hUt]
    have HBL := hid_mk (bitLen_ok B _ _ _ HN.out (by omega))
    have HF := hid_mk (fun w => shaped (fromU64_any 1 (by decide) (by decide) w))
    have HE1 : Hid (q - ((127 + bitLen (5 ^ U) : Nat) : Int) = E) := by rw [← e2]; exact HE.out
    rw [e1] at HLO
    clear e1 e2 hfit hUt
    obtain ⟨b, hb⟩ : ∃ b, b = bitLen (5 ^ U) := ⟨_, rfl⟩
    rw [← hb] at HBL HE1 HLO hbl
    clear hb
    have hU8 : U ≤ 348 := by omega
    have k1 : IntKind.u16.wrap (127 + (b : Int)) = ((127 + b : Nat) : Int) := by rw [IntKind.wrap_u16]; omega
    have k2 : IntKind.i16.wrap (127 + (b : Int)) = ((127 + b : Nat) : Int) := by rw [i16_wrap]; omega
    have k3 : IntKind.i16.wrap (q - ((127 + b : Nat) : Int)) = q - ((127 + b : Nat) : Int) := by rw [i16_wrap]; omega
    have k4 : q - ((127 + b : Nat) : Int) = E := HE1.out
    have k4' : q - (127 + (b : Int)) = E := by rw [← k4]; push_cast; rfl
    have k5 : IntKind.i16.wrap E = E := by rw [i16_wrap]; omega
    go_enter Oajg.func61, Oajg.ntmps61
    go_wp2_with fail
    refine Calls.mono HBL.out ?_
    rintro _ w1 ⟨rfl, hb⟩
    replace hS := bx2_next hS hb
    replace HB0 := hid_mk (below_then HB0.out hb)
    replace HN := hid_mk (HN.out.kept hb)
    clear hb HBL
    go_wp2_with fail
    refine Calls.mono (HF.out _) ?_
    rintro _ w2 ⟨a2, l2, c2, rfl, hN2, hb⟩
    replace hS := bx2_next hS hb
    replace HB0 := hid_mk (below_then HB0.out hb)
    replace HN := hid_mk (HN.out.kept hb)
    have HSH := hid_mk (shaped (shl_any 2 _ _ ((127 + b : Nat) : Int) w2 hN2 (by decide) (by omega) (by omega)))
    rw [show (1 : Int).toNat = 1 from rfl, Nat.one_mul, Int.toNat_natCast] at HSH
    clear hb hN2 HF
    go_wp2_with fail
    refine Calls.mono HSH.out ?_
    rintro _ w3 ⟨a3, l3, c3, rfl, hN3, hb⟩
    replace hS := bx2_next hS hb
    replace HB0 := hid_mk (below_then HB0.out hb)
    replace HN := hid_mk (HN.out.kept hb)
    have HDM := hid_mk (divMod_ok 2050 B _ _ _ _ w3 hN3 HN.out (by decide) (by omega) HP0.out)
    clear hb hN3 HSH
    go_wp2_with fail
    refine Calls.mono HDM.out ?_
    rintro _ w5 ⟨a4, l4, c4, a5, l5, c5, rfl, hN2, hN5, hb⟩
    replace hS := bx2_next hS hb
    replace HB0 := hid_mk (below_then HB0.out hb)
    replace hN2 := hN2.mono (show 2052 ≤ 20000 by decide)
    clear hb hN5 HDM
    go_wp2_with fail
    refine Calls.mono (HLO.out _ _ _ _ hN2) ?_
    rintro _ w4 ⟨rfl, hb⟩
    replace hS := bx2_next hS hb
    replace HB0 := hid_mk (below_then HB0.out hb)
    clear hb hN2
    go_wp2_with fail
    exact bodyPost_ret (v := .tuple #[.agg #[.int .u64 (H : Int), .int .u64 (L : Int)], .int .i16 E]) (by simp [results, Oajg.results61, go_sem, hS]) rfl ⟨by rw [HH.out, HL.out, HE.out], (HB0.out.setCell (p := ⟨w.heap.size, 0, none⟩) (Nat.le_refl _) _).setCell (p := ⟨w.heap.size, 1, none⟩) (Nat.le_refl _) _⟩
  · obtain ⟨U, hU⟩ : ∃ U : Nat, (U : Int) = q := ⟨q.toNat, by omega⟩
    have hUa : q.natAbs = U := by omega
    have hUt : q.toNat = U := by omega
    rw [hUa] at HN hbl HP0
    have e1 : tnM q = if bitLen (5 ^ U) < 128 then 5 ^ U * 2 ^ (128 - bitLen (5 ^ U)) else 5 ^ U / 2 ^ (bitLen (5 ^ U) - 128) := by unfold tnM; rw [if_neg hneg, hUt]
    have e2 : tnE q = (bitLen (5 ^ U) : Int) - 128 + q := by unfold tnE; rw [if_neg hneg, hUt]
    have HBL := hid_mk (bitLen_ok B _ _ _ HN.out (by omega))
    have HE1 : Hid ((bitLen (5 ^ U) : Int) - 128 + q = E) := by rw [← e2]; exact HE.out
    have HGE : Hid (2 ^ (bitLen (5 ^ U) - 128) ≤ 5 ^ U) := Nat.le_trans (Nat.pow_le_pow_right (by decide) (by omega)) (bitLen_le HP0.out)
    clear e2 hfit hUt
    obtain ⟨b, hb⟩ : ∃ b, b = bitLen (5 ^ U) := ⟨_, rfl⟩
    rw [← hb] at HBL HE1 hbl HGE e1
    clear hb
    have hU8 : U ≤ 347 := by omega
    have k4 : (b : Int) - 128 + q = E := HE1.out
    have k5 : IntKind.i16.wrap E = E := by rw [i16_wrap]; omega
    have k1 : IntKind.i16.wrap (b : Int) = (b : Int) := by rw [i16_wrap]; omega
    have hb1 : b ≤ 1100 := by omega
    have hq0 : ¬ q < 0 := hneg
    clear HE1 hbl hU hUa
    by_cases hsm : b < 128
    · rw [if_pos hsm] at e1
      rw [e1] at HLO
      clear e1
      obtain ⟨s, hs⟩ : ∃ s, s = 128 - b := ⟨_, rfl⟩
      rw [← hs] at HLO
      have k2 : IntKind.u16.wrap (s : Int) = (s : Int) := by rw [IntKind.wrap_u16]; omega
      have k3 : (128 : Int) - (b : Int) = (s : Int) := by omega
      have k6 : IntKind.i16.wrap (s : Int) = (s : Int) := by rw [i16_wrap]; omega
      have k7 : -((b : Int) - 128) = (s : Int) := by omega
      have k8 : IntKind.i16.wrap ((b : Int) - 128) = (b : Int) - 128 := by rw [i16_wrap]; omega
      have c1 : decide ((b : Int) - 128 < 0) = true := decide_eq_true (by omega)
      have c2 : (b : Int) - 128 < 0 := by omega
      have hs9 : s ≤ 128 := by omega
      clear hs
      go_enter Oajg.func61, Oajg.ntmps61
      go_wp2_with fail
      refine Calls.mono HBL.out ?_
      rintro _ w1 ⟨rfl, hb⟩
      replace hS := bx2_next hS hb
      replace HB0 := hid_mk (below_then HB0.out hb)
      replace HN := hid_mk (HN.out.kept hb)
      have HSH := hid_mk (shaped (shl_any B _ _ (s : Int) w1 HN.out (by omega) (by omega) (by omega)))
      rw [Int.toNat_natCast] at HSH
      clear hb HBL
      go_wp2_with fail
      refine Calls.mono HSH.out ?_
      rintro _ w2 ⟨a2, l2, c2, rfl, hN2, hb⟩
      replace hN2 := hN2.mono (show B + 2048 ≤ 20000 by omega)
      replace hS := bx2_next hS hb
      replace HB0 := hid_mk (below_then HB0.out hb)
      clear hb HSH
      go_wp2_with fail
      refine Calls.mono (HLO.out _ _ _ _ hN2) ?_
      rintro _ w4 ⟨rfl, hb⟩
      replace hS := bx2_next hS hb
      replace HB0 := hid_mk (below_then HB0.out hb)
      clear hb hN2
      go_wp2_with fail
      exact bodyPost_ret (v := .tuple #[.agg #[.int .u64 (H : Int), .int .u64 (L : Int)], .int .i16 E]) (by simp [results, Oajg.results61, go_sem, hS]) rfl ⟨by rw [HH.out, HL.out, HE.out], (HB0.out.setCell (p := ⟨w.heap.size, 0, none⟩) (Nat.le_refl _) _).setCell (p := ⟨w.heap.size, 1, none⟩) (Nat.le_refl _) _⟩
    · rw [if_neg hsm] at e1
      rw [e1] at HLO
      clear e1
      obtain ⟨s, hs⟩ : ∃ s, s = b - 128 := ⟨_, rfl⟩
      rw [← hs] at HLO HGE
      have k3 : (b : Int) - 128 = (s : Int) := by omega
      have k7 : IntKind.u16.wrap (s : Int) = (s : Int) := by rw [IntKind.wrap_u16]; omega
      have k8 : IntKind.i16.wrap (s : Int) = (s : Int) := by rw [i16_wrap]; omega
      have k11 : (s : Int) + q = E := by rw [← k3]; exact k4
      have c1 : decide ((s : Int) < 0) = false := decide_eq_false (by omega)
      have hs9 : s ≤ 1100 := by omega
      clear hs k4
      go_enter Oajg.func61, Oajg.ntmps61
      go_wp2_with fail
      refine Calls.mono HBL.out ?_
      rintro _ w1 ⟨rfl, hb⟩
      replace hS := bx2_next hS hb
      replace HB0 := hid_mk (below_then HB0.out hb)
      replace HN := hid_mk (HN.out.kept hb)
      have HSH := hid_mk (shrG_ok B _ _ s w1 (by omega) (by omega) HGE.out ((trim_norm w1 HN.out (by omega)).mono (by rintro e w' ⟨rfl, rfl⟩; exact ⟨rfl, _, rfl, HN.out⟩)))
      clear hb HBL
      go_wp2_with fail
      refine Calls.mono HSH.out ?_
      rintro _ w2 ⟨a2, l2, c2, lost, rfl, hN2, hb⟩
      replace hN2 := hN2.mono (show B ≤ 20000 by omega)
      replace hS := bx2_next hS hb
      replace HB0 := hid_mk (below_then HB0.out hb)
      clear hb HSH
      go_wp2_with fail
      refine Calls.mono (HLO.out _ _ _ _ hN2) ?_
      rintro _ w4 ⟨rfl, hb⟩
      replace hS := bx2_next hS hb
      replace HB0 := hid_mk (below_then HB0.out hb)
      clear hb hN2
      go_wp2_with fail
      exact bodyPost_ret (v := .tuple #[.agg #[.int .u64 (H : Int), .int .u64 (L : Int)], .int .i16 E]) (by simp [results, Oajg.results61, go_sem, hS]) rfl ⟨by rw [HH.out, HL.out, HE.out], (HB0.out.setCell (p := ⟨w.heap.size, 0, none⟩) (Nat.le_refl _) _).setCell (p := ⟨w.heap.size, 1, none⟩) (Nat.le_refl _) _⟩

set_option maxRecDepth 100000 in
set_option maxHeartbeats 4000000 in
theorem Entry_ok (q : Int) (hq1 : -348 ≤ q) (hq2 : q ≤ 347) (w : World) :
    Calls Oajg.prog 109 #[.int .i16 q] w fun e w' => e = .returned (.tuple #[.agg #[.int .u64 ((tnM q / 18446744073709551616 : Nat) : Int), .int .u64 ((tnM q % 18446744073709551616 : Nat) : Int)], .int .i16 (tnE q), .bool true]) ∧ Below w.heap.size w w' := by
  have hS := bx2_made w (m := w.heap.size) (.int .u64 0) (.int .u64 0) 88 rfl
  have HB0 := hid_mk (show Below w.heap.size w (w.alloc (.cells #[.int .u64 0, .int .u64 0] 88)) from (Below.refl _ _).alloc (Nat.le_refl _) _)
  have HEN := hid_mk (fun (ad : Option Addr) (k c : Nat) (w : World) (h : NatIs 7000 w (.slice ad k c) (5 ^ q.natAbs)) => entry_ok q hq1 hq2 7000 (by decide) ad k c w h)
  have HPa : Hid (-q ≤ q → ∀ w, Calls Oajg.prog 157 #[.int .u16 q] w fun x w' => ∃ ad k c, x = .returned (.slice ad k c) ∧ NatIs 7000 w' (.slice ad k c) (5 ^ q.natAbs) ∧ Below w.heap.size w w') := fun h w => by
    have := pow5_ok q.natAbs (by omega) w
    rw [show ((q.natAbs : Nat) : Int) = q from by omega] at this
    exact this
  have HPb : Hid (q < -q → ∀ w, Calls Oajg.prog 157 #[.int .u16 (-q)] w fun x w' => ∃ ad k c, x = .returned (.slice ad k c) ∧ NatIs 7000 w' (.slice ad k c) (5 ^ q.natAbs) ∧ Below w.heap.size w w') := fun h w => by
    have := pow5_ok q.natAbs (by omega) w
    rw [show ((q.natAbs : Nat) : Int) = -q from by omega] at this
    exact this
  have b1 : decide (q < -348) = false := decide_eq_false (by omega)
  have b2 : decide (347 < q) = false := decide_eq_false (by omega)
  obtain ⟨H, HH⟩ : ∃ H : Int, Hid (((tnM q / 18446744073709551616 : Nat) : Int) = H) := ⟨_, rfl⟩
  obtain ⟨L, HL⟩ : ∃ L : Int, Hid (((tnM q % 18446744073709551616 : Nat) : Int) = L) := ⟨_, rfl⟩
  obtain ⟨E, HE⟩ : ∃ E, Hid (tnE q = E) := ⟨_, rfl⟩
  rw [HH.out, HL.out, HE.out] at HEN
  rw [HH.out, HL.out, HE.out]
  by_cases hsg : q < 0
  · have c1 : q < -q := by omega
    have c2 : ¬ -q ≤ q := by omega
    replace HPb := hid_mk (HPb.out c1)
    clear HPa
    generalize q.natAbs = U at *
    go_enter Oajg.func109, Oajg.ntmps109
    go_wp2_with fail
    refine Calls.mono (HPb.out _) ?_
    rintro _ w1 ⟨a2, l2, c2, rfl, hN2, hb⟩
    replace hS := bx2_next hS hb
    replace HB0 := hid_mk (below_then HB0.out hb)
    have HE1 := hid_mk (HEN.out _ _ _ _ hN2)
    clear hb hN2 HEN HPb
    go_wp2_with fail
    refine Calls.mono HE1.out ?_
    rintro _ w2 ⟨rfl, hb⟩
    replace hS := bx2_next hS hb
    replace HB0 := hid_mk (below_then HB0.out hb)
    clear hb HE1
    go_wp2_with fail
    have hS4 := bx2_put (bx2_put hS (.int .u64 H) (.int .u64 L)) (.int .u64 H) (.int .u64 L)
    exact bodyPost_ret (v := .tuple #[.agg #[.int .u64 H, .int .u64 L], .int .i16 E, .bool true]) (by clear hS; generalize ((w2.setCell _ _).setCell _ _) = w3 at *; simp [results, Oajg.results109, go_sem, hS4]) rfl ⟨rfl, (((HB0.out.setCell (p := ⟨w.heap.size, 0, none⟩) (Nat.le_refl _) _).setCell (p := ⟨w.heap.size, 1, none⟩) (Nat.le_refl _) _).setCell (p := ⟨w.heap.size, 0, none⟩) (Nat.le_refl _) _).setCell (p := ⟨w.heap.size, 1, none⟩) (Nat.le_refl _) _⟩
  · have c1 : ¬ q < -q := by omega
    have c2 : -q ≤ q := by omega
    replace HPa := hid_mk (HPa.out c2)
    clear HPb
    generalize q.natAbs = U at *
    go_enter Oajg.func109, Oajg.ntmps109
    go_wp2_with fail
    refine Calls.mono (HPa.out _) ?_
    rintro _ w1 ⟨a2, l2, c2, rfl, hN2, hb⟩
    replace hS := bx2_next hS hb
    replace HB0 := hid_mk (below_then HB0.out hb)
    have HE1 := hid_mk (HEN.out _ _ _ _ hN2)
    clear hb hN2 HEN HPa
    go_wp2_with fail
    refine Calls.mono HE1.out ?_
    rintro _ w2 ⟨rfl, hb⟩
    replace hS := bx2_next hS hb
    replace HB0 := hid_mk (below_then HB0.out hb)
    clear hb HE1
    go_wp2_with fail
    have hS4 := bx2_put (bx2_put hS (.int .u64 H) (.int .u64 L)) (.int .u64 H) (.int .u64 L)
    exact bodyPost_ret (v := .tuple #[.agg #[.int .u64 H, .int .u64 L], .int .i16 E, .bool true]) (by clear hS; generalize ((w2.setCell _ _).setCell _ _) = w3 at *; simp [results, Oajg.results109, go_sem, hS4]) rfl ⟨rfl, (((HB0.out.setCell (p := ⟨w.heap.size, 0, none⟩) (Nat.le_refl _) _).setCell (p := ⟨w.heap.size, 1, none⟩) (Nat.le_refl _) _).setCell (p := ⟨w.heap.size, 0, none⟩) (Nat.le_refl _) _).setCell (p := ⟨w.heap.size, 1, none⟩) (Nat.le_refl _) _⟩

end Go.Proofs.Ygcoaj
