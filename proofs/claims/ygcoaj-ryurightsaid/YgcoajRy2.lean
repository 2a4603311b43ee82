/-
  WALKS: exact.pow10 (207), exact.tenTo (195), exact.cmpRat (194).
-/
import Derived.Test.YgcoajRy1
import Derived.Test.YgcoajRnd2
set_option linter.unusedVariables false
set_option linter.unusedSimpArgs false
namespace Go.Proofs.Ygcoaj
open Go.RowKit

set_option maxRecDepth 100000 in
theorem pow10_ok (K : Nat) (hK : K ≤ 65535) (w : World) : Calls Oajg.prog 207 #[.int .i64 (K : Int)] w fun x w' => ∃ ad k c, x = .returned (.slice ad k c) ∧ NatIs (7000 + 2048) w' (.slice ad k c) (10 ^ K) ∧ Below w.heap.size w w' := by
  have HP := hid_mk (pow5_ok K hK)
  have k1 : IntKind.u16.wrap (K : Int) = (K : Int) := by rw [IntKind.wrap_u16]; omega
  go_enter Oajg.func207, Oajg.ntmps207
  go_wp2_with fail
  refine Calls.mono (HP.out _) ?_
  rintro _ w1 ⟨b1, l1, e1, rfl, hN, hb⟩
  have HB1 := hid_mk hb
  have HS := hid_mk (shaped (shl_any 7000 _ _ (K : Int) w1 hN (by decide) (by omega) (by omega)))
  rw [Int.toNat_natCast, ← ten_pow] at HS
  clear hN hb HP
  go_wp2_with fail
  refine Calls.mono HS.out ?_
  rintro _ w2 ⟨b2, l2, e2, rfl, hN, hb⟩
  have HB2 := hid_mk (below_then HB1.out hb)
  have HN := hid_mk hN
  clear hN hb
  go_wp2_with fail
  go_ret
  exact ⟨_, _, _, rfl, HN.out, HB2.out⟩

set_option maxRecDepth 100000 in
set_option maxHeartbeats 1000000 in
theorem tenTo_ok (k : Int) (h1 : -60000 ≤ k) (h2 : k ≤ 60000) (w : World) : Calls Oajg.prog 195 #[.int .i64 k] w fun x w' => ∃ a1 k1 c1 a2 k2 c2, x = .returned (.agg #[.bool false, .slice a1 k1 c1, .slice a2 k2 c2]) ∧ NatIs 9048 w' (.slice a1 k1 c1) (10 ^ k.toNat) ∧ NatIs 9048 w' (.slice a2 k2 c2) (10 ^ (-k).toNat) ∧ Below w.heap.size w w' := by
  have hR := bx3_made w (m := w.heap.size) (.bool false) (.slice none 0 0) (.slice none 0 0) 48 rfl
  have HB0 := hid_mk (show Below w.heap.size w (w.alloc (.cells #[.bool false, .slice none 0 0, .slice none 0 0] 48)) from (Below.refl _ _).alloc (Nat.le_refl _) _)
  by_cases hk : k < 0
  · obtain ⟨K, hKe⟩ : ∃ K : Nat, (K : Int) = -k := ⟨(-k).toNat, by omega⟩
    have HP := hid_mk (pow10_ok K (by omega))
    have HF := hid_mk (fun w => shaped (fromU64_any 1 (by decide) (by decide) w))
    have kn : -k = (K : Int) := hKe.symm
    have e1 : k.toNat = 0 := by omega
    have e2 : (-k).toNat = K := by omega
    rw [e1, e2]
    clear e1 e2 hKe
    go_enter Oajg.func195, Oajg.ntmps195
    go_wp2_with fail
    refine Calls.mono (HF.out _) ?_
    rintro _ w1 ⟨b1, l1, e1, rfl, hN1, hb⟩
    replace hR := bx3_next hR hb
    replace HB0 := hid_mk (below_then HB0.out hb)
    have HN1 := hid_mk hN1
    clear hN1 hb HF
    go_wp2_with fail
    refine Calls.mono (HP.out _) ?_
    rintro _ w2 ⟨b2, l2, e2, rfl, hN2, hb⟩
    replace hR := bx3_next hR hb
    replace HB0 := hid_mk (below_then HB0.out hb)
    replace HN1 := hid_mk (HN1.out.kept hb)
    have HN2 := hid_mk hN2
    clear hN2 hb HP
    have hkp := store3 hR (not32_bool _) (not32_slice _ _ _) (not32_slice _ _ _) (.bool false) (.slice b1 l1 e1) (.slice b2 l2 e2)
    go_wp2_with fail
    refine bodyPost_ret (v := .agg #[.bool false, .slice b1 l1 e1, .slice b2 l2 e2]) (by simp [results, Oajg.results195, go_sem, hR]) rfl ⟨_, _, _, _, _, _, rfl, (HN1.out.mono (by decide)).kp hkp, HN2.out.kp hkp, ?_⟩
    exact ((HB0.out.setCell (Nat.le_refl _) _).setCell (Nat.le_refl _) _).setCell (Nat.le_refl _) _
  · obtain ⟨K, hKe⟩ : ∃ K : Nat, (K : Int) = k := ⟨k.toNat, by omega⟩
    have HP := hid_mk (pow10_ok K (by omega))
    subst hKe
    have e1 : ((K : Int)).toNat = K := Int.toNat_natCast K
    have e2 : (-(K : Int)).toNat = 0 := by omega
    rw [e1, e2, Nat.pow_zero]
    clear e1 e2 hk
    have hk' : ¬ (K : Int) < 0 := by omega
    go_enter Oajg.func195, Oajg.ntmps195
    go_wp2_with fail
    refine Calls.mono (HP.out _) ?_
    rintro _ w1 ⟨b1, l1, e1, rfl, hN1, hb⟩
    replace hR := bx3_next hR hb
    replace HB0 := hid_mk (below_then HB0.out hb)
    have HW := hid_mk (whole_ok false b1 l1 e1 w1)
    have HN1 := hid_mk hN1
    clear hN1 hb HP
    go_wp2_with fail
    refine Calls.mono HW.out ?_
    rintro _ w2 ⟨b2, l2, e2, rfl, hN2, hb⟩
    replace hR := bx3_next hR hb
    replace HB0 := hid_mk (below_then HB0.out hb)
    replace HN1 := hid_mk (HN1.out.kept hb)
    have HN2 := hid_mk hN2
    clear hN2 hb HW
    have hkp := store3 hR (not32_bool _) (not32_slice _ _ _) (not32_slice _ _ _) (.bool false) (.slice b1 l1 e1) (.slice b2 l2 e2)
    go_wp2_with fail
    refine bodyPost_ret (v := .agg #[.bool false, .slice b1 l1 e1, .slice b2 l2 e2]) (by simp [results, Oajg.results195, go_sem, hR]) rfl ⟨_, _, _, _, _, _, rfl, HN1.out.kp hkp, (HN2.out.mono (by decide)).kp hkp, ?_⟩
    exact ((HB0.out.setCell (Nat.le_refl _) _).setCell (Nat.le_refl _) _).setCell (Nat.le_refl _) _

theorem s2_next {w W W' A : World} {p q : Nat} {x0 x1 x2 y0 y1 y2 : Value} (h : (W.cell? ⟨p, 0, none⟩ = some x0 ∧ W.cell? ⟨p, 1, none⟩ = some x1 ∧ W.cell? ⟨p, 2, none⟩ = some x2 ∧ (∀ o, W.frozen? ⟨p, o, none⟩ = false) ∧ p < W.heap.size) ∧ (W.cell? ⟨q, 0, none⟩ = some y0 ∧ W.cell? ⟨q, 1, none⟩ = some y1 ∧ W.cell? ⟨q, 2, none⟩ = some y2 ∧ (∀ o, W.frozen? ⟨q, o, none⟩ = false) ∧ q < W.heap.size) ∧ Kp A W ∧ Below w.heap.size w W) (hb : Below W.heap.size W W') : (W'.cell? ⟨p, 0, none⟩ = some x0 ∧ W'.cell? ⟨p, 1, none⟩ = some x1 ∧ W'.cell? ⟨p, 2, none⟩ = some x2 ∧ (∀ o, W'.frozen? ⟨p, o, none⟩ = false) ∧ p < W'.heap.size) ∧ (W'.cell? ⟨q, 0, none⟩ = some y0 ∧ W'.cell? ⟨q, 1, none⟩ = some y1 ∧ W'.cell? ⟨q, 2, none⟩ = some y2 ∧ (∀ o, W'.frozen? ⟨q, o, none⟩ = false) ∧ q < W'.heap.size) ∧ Kp A W' ∧ Below w.heap.size w W' := ⟨bx3_next h.1 hb, bx3_next h.2.1 hb, h.2.2.1.trans (Kp.of hb), below_then h.2.2.2 hb⟩
theorem s2_drew {w W A : World} {p q : Nat} {x0 x1 x2 y0 y1 y2 : Value} (h : (W.cell? ⟨p, 0, none⟩ = some x0 ∧ W.cell? ⟨p, 1, none⟩ = some x1 ∧ W.cell? ⟨p, 2, none⟩ = some x2 ∧ (∀ o, W.frozen? ⟨p, o, none⟩ = false) ∧ p < W.heap.size) ∧ (W.cell? ⟨q, 0, none⟩ = some y0 ∧ W.cell? ⟨q, 1, none⟩ = some y1 ∧ W.cell? ⟨q, 2, none⟩ = some y2 ∧ (∀ o, W.frozen? ⟨q, o, none⟩ = false) ∧ q < W.heap.size) ∧ Kp A W ∧ Below w.heap.size w W) : (W.drew.cell? ⟨p, 0, none⟩ = some x0 ∧ W.drew.cell? ⟨p, 1, none⟩ = some x1 ∧ W.drew.cell? ⟨p, 2, none⟩ = some x2 ∧ (∀ o, W.drew.frozen? ⟨p, o, none⟩ = false) ∧ p < W.drew.heap.size) ∧ (W.drew.cell? ⟨q, 0, none⟩ = some y0 ∧ W.drew.cell? ⟨q, 1, none⟩ = some y1 ∧ W.drew.cell? ⟨q, 2, none⟩ = some y2 ∧ (∀ o, W.drew.frozen? ⟨q, o, none⟩ = false) ∧ q < W.drew.heap.size) ∧ Kp A W.drew ∧ Below w.heap.size w W.drew := ⟨bx3_drew h.1, bx3_drew h.2.1, h.2.2.1.drew, h.2.2.2.drew⟩
set_option maxRecDepth 100000 in
set_option maxHeartbeats 2000000 in
theorem cmpRat_ok (g1 g2 : Bool) (a1 a2 a3 a4 : Option Addr) (k1 c1 k2 c2 k3 c3 k4 c4 B n1 d1 n2 d2 : Nat) (w : World) (h1 : NatIs B w (.slice a1 k1 c1) n1) (h2 : NatIs B w (.slice a2 k2 c2) d1) (h3 : NatIs B w (.slice a3 k3 c3) n2) (h4 : NatIs B w (.slice a4 k4 c4) d2) (hB : B ≤ 1000000) :
    Calls Oajg.prog 194 #[.agg #[.bool g1, .slice a1 k1 c1, .slice a2 k2 c2], .agg #[.bool g2, .slice a3 k3 c3, .slice a4 k4 c4]] w fun e w' => e = .returned (.int .i8 (cmpZ (n1 * d2) (n2 * d1))) ∧ Below w.heap.size w w' := by
  have hbl : Below w.heap.size w ((w.alloc (.cells #[.bool g1, .slice a1 k1 c1, .slice a2 k2 c2] 48)).alloc (.cells #[.bool g2, .slice a3 k3 c3, .slice a4 k4 c4] 48)) := ((Below.refl _ _).alloc (Nat.le_refl _) _).alloc (by simp) _
  have hS : (((w.alloc (.cells #[.bool g1, .slice a1 k1 c1, .slice a2 k2 c2] 48)).alloc (.cells #[.bool g2, .slice a3 k3 c3, .slice a4 k4 c4] 48)).cell? ⟨w.heap.size, 0, none⟩ = some (.bool g1) ∧ ((w.alloc (.cells #[.bool g1, .slice a1 k1 c1, .slice a2 k2 c2] 48)).alloc (.cells #[.bool g2, .slice a3 k3 c3, .slice a4 k4 c4] 48)).cell? ⟨w.heap.size, 1, none⟩ = some (.slice a1 k1 c1) ∧ ((w.alloc (.cells #[.bool g1, .slice a1 k1 c1, .slice a2 k2 c2] 48)).alloc (.cells #[.bool g2, .slice a3 k3 c3, .slice a4 k4 c4] 48)).cell? ⟨w.heap.size, 2, none⟩ = some (.slice a2 k2 c2) ∧ (∀ o, ((w.alloc (.cells #[.bool g1, .slice a1 k1 c1, .slice a2 k2 c2] 48)).alloc (.cells #[.bool g2, .slice a3 k3 c3, .slice a4 k4 c4] 48)).frozen? ⟨w.heap.size, o, none⟩ = false) ∧ w.heap.size < ((w.alloc (.cells #[.bool g1, .slice a1 k1 c1, .slice a2 k2 c2] 48)).alloc (.cells #[.bool g2, .slice a3 k3 c3, .slice a4 k4 c4] 48)).heap.size) ∧ (((w.alloc (.cells #[.bool g1, .slice a1 k1 c1, .slice a2 k2 c2] 48)).alloc (.cells #[.bool g2, .slice a3 k3 c3, .slice a4 k4 c4] 48)).cell? ⟨(w.heap.size + 1), 0, none⟩ = some (.bool g2) ∧ ((w.alloc (.cells #[.bool g1, .slice a1 k1 c1, .slice a2 k2 c2] 48)).alloc (.cells #[.bool g2, .slice a3 k3 c3, .slice a4 k4 c4] 48)).cell? ⟨(w.heap.size + 1), 1, none⟩ = some (.slice a3 k3 c3) ∧ ((w.alloc (.cells #[.bool g1, .slice a1 k1 c1, .slice a2 k2 c2] 48)).alloc (.cells #[.bool g2, .slice a3 k3 c3, .slice a4 k4 c4] 48)).cell? ⟨(w.heap.size + 1), 2, none⟩ = some (.slice a4 k4 c4) ∧ (∀ o, ((w.alloc (.cells #[.bool g1, .slice a1 k1 c1, .slice a2 k2 c2] 48)).alloc (.cells #[.bool g2, .slice a3 k3 c3, .slice a4 k4 c4] 48)).frozen? ⟨(w.heap.size + 1), o, none⟩ = false) ∧ (w.heap.size + 1) < ((w.alloc (.cells #[.bool g1, .slice a1 k1 c1, .slice a2 k2 c2] 48)).alloc (.cells #[.bool g2, .slice a3 k3 c3, .slice a4 k4 c4] 48)).heap.size) ∧ Kp w ((w.alloc (.cells #[.bool g1, .slice a1 k1 c1, .slice a2 k2 c2] 48)).alloc (.cells #[.bool g2, .slice a3 k3 c3, .slice a4 k4 c4] 48)) ∧ Below w.heap.size w ((w.alloc (.cells #[.bool g1, .slice a1 k1 c1, .slice a2 k2 c2] 48)).alloc (.cells #[.bool g2, .slice a3 k3 c3, .slice a4 k4 c4] 48)) := ⟨bx3_alloc (bx3_made w (m := w.heap.size) _ _ _ 48 rfl) _, bx3_made (w.alloc (.cells #[.bool g1, .slice a1 k1 c1, .slice a2 k2 c2] 48)) (m := w.heap.size + 1) _ _ _ 48 (by simp), ((Kp.refl w).alloc _).alloc _, hbl⟩
  have HM1 : Hid (∀ W, ((W.cell? ⟨w.heap.size, 0, none⟩ = some (.bool g1) ∧ W.cell? ⟨w.heap.size, 1, none⟩ = some (.slice a1 k1 c1) ∧ W.cell? ⟨w.heap.size, 2, none⟩ = some (.slice a2 k2 c2) ∧ (∀ o, W.frozen? ⟨w.heap.size, o, none⟩ = false) ∧ w.heap.size < W.heap.size) ∧ (W.cell? ⟨(w.heap.size + 1), 0, none⟩ = some (.bool g2) ∧ W.cell? ⟨(w.heap.size + 1), 1, none⟩ = some (.slice a3 k3 c3) ∧ W.cell? ⟨(w.heap.size + 1), 2, none⟩ = some (.slice a4 k4 c4) ∧ (∀ o, W.frozen? ⟨(w.heap.size + 1), o, none⟩ = false) ∧ (w.heap.size + 1) < W.heap.size) ∧ Kp w W ∧ Below w.heap.size w W) → Calls Oajg.prog 62 #[.slice a1 k1 c1, .slice a4 k4 c4] W fun e w' => ∃ ad k c, e = .returned (.slice ad k c) ∧ NatIs (B + B) w' (.slice ad k c) (n1 * d2) ∧ Below W.heap.size W w') := fun W hW => shaped (mul_any B B _ _ _ _ W (h1.kp hW.2.2.1) (h4.kp hW.2.2.1) (by omega) (by omega))
  have HM2 : Hid (∀ W, ((W.cell? ⟨w.heap.size, 0, none⟩ = some (.bool g1) ∧ W.cell? ⟨w.heap.size, 1, none⟩ = some (.slice a1 k1 c1) ∧ W.cell? ⟨w.heap.size, 2, none⟩ = some (.slice a2 k2 c2) ∧ (∀ o, W.frozen? ⟨w.heap.size, o, none⟩ = false) ∧ w.heap.size < W.heap.size) ∧ (W.cell? ⟨(w.heap.size + 1), 0, none⟩ = some (.bool g2) ∧ W.cell? ⟨(w.heap.size + 1), 1, none⟩ = some (.slice a3 k3 c3) ∧ W.cell? ⟨(w.heap.size + 1), 2, none⟩ = some (.slice a4 k4 c4) ∧ (∀ o, W.frozen? ⟨(w.heap.size + 1), o, none⟩ = false) ∧ (w.heap.size + 1) < W.heap.size) ∧ Kp w W ∧ Below w.heap.size w W) → Calls Oajg.prog 62 #[.slice a3 k3 c3, .slice a2 k2 c2] W fun e w' => ∃ ad k c, e = .returned (.slice ad k c) ∧ NatIs (B + B) w' (.slice ad k c) (n2 * d1) ∧ Below W.heap.size W w') := fun W hW => shaped (mul_any B B _ _ _ _ W (h3.kp hW.2.2.1) (h2.kp hW.2.2.1) (by omega) (by omega))
  have HC0 : Hid (∀ W ba la ea bb lb eb, NatIs (B + B) W (.slice ba la ea) (n1 * d2) → NatIs (B + B) W (.slice bb lb eb) (n2 * d1) → Calls Oajg.prog 82 #[.slice ba la ea, .slice bb lb eb] W fun e w' => e = .returned (.int .i8 (cmpZ (n1 * d2) (n2 * d1))) ∧ Below W.heap.size W w') := fun W ba la ea bb lb eb q1 q2 => cmp_any _ _ _ _ _ _ W q1 q2 (by omega) (by omega)
  clear h1 h2 h3 h4 hbl
  generalize cmpZ (n1 * d2) (n2 * d1) = Z at *
  generalize n1 * d2 = x at *
  generalize n2 * d1 = y at *
  go_enter Oajg.func194, Oajg.ntmps194
  go_wp2_with fail
  go_region_held3 (fun W => (W.cell? ⟨w.heap.size, 0, none⟩ = some (.bool g1) ∧ W.cell? ⟨w.heap.size, 1, none⟩ = some (.slice a1 k1 c1) ∧ W.cell? ⟨w.heap.size, 2, none⟩ = some (.slice a2 k2 c2) ∧ (∀ o, W.frozen? ⟨w.heap.size, o, none⟩ = false) ∧ w.heap.size < W.heap.size) ∧ (W.cell? ⟨(w.heap.size + 1), 0, none⟩ = some (.bool g2) ∧ W.cell? ⟨(w.heap.size + 1), 1, none⟩ = some (.slice a3 k3 c3) ∧ W.cell? ⟨(w.heap.size + 1), 2, none⟩ = some (.slice a4 k4 c4) ∧ (∀ o, W.frozen? ⟨(w.heap.size + 1), o, none⟩ = false) ∧ (w.heap.size + 1) < W.heap.size) ∧ Kp w W ∧ Below w.heap.size w W)
    ((repeat' (first | with_reducible assumption | with_reducible refine s2_drew ?_)))
    ((first | (go_at_call 62; (with_reducible refine Calls.mono (HM1.out _ ?hh) ?_); (case hh => with_reducible assumption); rintro _ w4 ⟨ba, la, ea, rfl, hNa, hb⟩; have hS4 := s2_next (by with_reducible assumption) hb; have HNa : Hid (NatIs (B + B) w4 (.slice ba la ea) x) := hNa; clear hb hNa) | (go_at_call 62; (with_reducible refine Calls.mono (HM2.out _ ?hh) ?_); (case hh => with_reducible assumption); rintro _ w5 ⟨bb, lb, eb, rfl, hNb, hb⟩; have hS5 := s2_next (by with_reducible assumption) hb; have HNc : Hid (NatIs (B + B) w5 (.slice ba la ea) x) := HNa.out.kept hb; have HNb : Hid (NatIs (B + B) w5 (.slice bb lb eb) y) := hNb; clear hb hNb) | (go_at_call 82; (with_reducible refine Calls.mono (HC0.out _ _ _ _ _ _ _ HNc.out HNb.out) ?_); rintro _ w6 ⟨rfl, hb⟩; have hS6 := s2_next (by with_reducible assumption) hb; clear hb)))
  go_wp2_with fail
  go_ret
  exact ⟨rfl, hS6.2.2.2⟩

/-! ### log10 -/

end Go.Proofs.Ygcoaj
