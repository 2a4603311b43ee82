/-
  WALKS: exact.AddFlags (147).
-/
import Derived.Test.YgcoajBnS1
set_option linter.unusedVariables false
set_option linter.unusedSimpArgs false
namespace Go.Proofs.Ygcoaj
open Go.RowKit

theorem sq6_next {w W W' A : World} {b p q E M : Nat} {x0 x1 x2 x3 x4 x5 y0 y1 y2 y3 y4 y5 : Value} (h : (W.cell? ⟨b, 0, none⟩ = some (.int .u8 (E : Int)) ∧ W.cell? ⟨b, 1, none⟩ = some (.int .u8 (M : Int)) ∧ b < W.heap.size ∧ Below w.heap.size w W) ∧ (W.cell? ⟨p, 0, none⟩ = some x0 ∧ W.cell? ⟨p, 1, none⟩ = some x1 ∧ W.cell? ⟨p, 2, none⟩ = some x2 ∧ W.cell? ⟨p, 3, none⟩ = some x3 ∧ W.cell? ⟨p, 4, none⟩ = some x4 ∧ W.cell? ⟨p, 5, none⟩ = some x5 ∧ (∀ o, W.frozen? ⟨p, o, none⟩ = false) ∧ p < W.heap.size) ∧ (W.cell? ⟨q, 0, none⟩ = some y0 ∧ W.cell? ⟨q, 1, none⟩ = some y1 ∧ W.cell? ⟨q, 2, none⟩ = some y2 ∧ W.cell? ⟨q, 3, none⟩ = some y3 ∧ W.cell? ⟨q, 4, none⟩ = some y4 ∧ W.cell? ⟨q, 5, none⟩ = some y5 ∧ (∀ o, W.frozen? ⟨q, o, none⟩ = false) ∧ q < W.heap.size) ∧ Kp A W) (hb : Below W.heap.size W W') : (W'.cell? ⟨b, 0, none⟩ = some (.int .u8 (E : Int)) ∧ W'.cell? ⟨b, 1, none⟩ = some (.int .u8 (M : Int)) ∧ b < W'.heap.size ∧ Below w.heap.size w W') ∧ (W'.cell? ⟨p, 0, none⟩ = some x0 ∧ W'.cell? ⟨p, 1, none⟩ = some x1 ∧ W'.cell? ⟨p, 2, none⟩ = some x2 ∧ W'.cell? ⟨p, 3, none⟩ = some x3 ∧ W'.cell? ⟨p, 4, none⟩ = some x4 ∧ W'.cell? ⟨p, 5, none⟩ = some x5 ∧ (∀ o, W'.frozen? ⟨p, o, none⟩ = false) ∧ p < W'.heap.size) ∧ (W'.cell? ⟨q, 0, none⟩ = some y0 ∧ W'.cell? ⟨q, 1, none⟩ = some y1 ∧ W'.cell? ⟨q, 2, none⟩ = some y2 ∧ W'.cell? ⟨q, 3, none⟩ = some y3 ∧ W'.cell? ⟨q, 4, none⟩ = some y4 ∧ W'.cell? ⟨q, 5, none⟩ = some y5 ∧ (∀ o, W'.frozen? ⟨q, o, none⟩ = false) ∧ q < W'.heap.size) ∧ Kp A W' := ⟨sf_next h.1 hb, bx6_next h.2.1 hb, bx6_next h.2.2.1 hb, h.2.2.2.trans (Kp.of hb)⟩
theorem sq6_drew {w W A : World} {b p q E M : Nat} {x0 x1 x2 x3 x4 x5 y0 y1 y2 y3 y4 y5 : Value} (h : (W.cell? ⟨b, 0, none⟩ = some (.int .u8 (E : Int)) ∧ W.cell? ⟨b, 1, none⟩ = some (.int .u8 (M : Int)) ∧ b < W.heap.size ∧ Below w.heap.size w W) ∧ (W.cell? ⟨p, 0, none⟩ = some x0 ∧ W.cell? ⟨p, 1, none⟩ = some x1 ∧ W.cell? ⟨p, 2, none⟩ = some x2 ∧ W.cell? ⟨p, 3, none⟩ = some x3 ∧ W.cell? ⟨p, 4, none⟩ = some x4 ∧ W.cell? ⟨p, 5, none⟩ = some x5 ∧ (∀ o, W.frozen? ⟨p, o, none⟩ = false) ∧ p < W.heap.size) ∧ (W.cell? ⟨q, 0, none⟩ = some y0 ∧ W.cell? ⟨q, 1, none⟩ = some y1 ∧ W.cell? ⟨q, 2, none⟩ = some y2 ∧ W.cell? ⟨q, 3, none⟩ = some y3 ∧ W.cell? ⟨q, 4, none⟩ = some y4 ∧ W.cell? ⟨q, 5, none⟩ = some y5 ∧ (∀ o, W.frozen? ⟨q, o, none⟩ = false) ∧ q < W.heap.size) ∧ Kp A W) : (W.drew.cell? ⟨b, 0, none⟩ = some (.int .u8 (E : Int)) ∧ W.drew.cell? ⟨b, 1, none⟩ = some (.int .u8 (M : Int)) ∧ b < W.drew.heap.size ∧ Below w.heap.size w W.drew) ∧ (W.drew.cell? ⟨p, 0, none⟩ = some x0 ∧ W.drew.cell? ⟨p, 1, none⟩ = some x1 ∧ W.drew.cell? ⟨p, 2, none⟩ = some x2 ∧ W.drew.cell? ⟨p, 3, none⟩ = some x3 ∧ W.drew.cell? ⟨p, 4, none⟩ = some x4 ∧ W.drew.cell? ⟨p, 5, none⟩ = some x5 ∧ (∀ o, W.drew.frozen? ⟨p, o, none⟩ = false) ∧ p < W.drew.heap.size) ∧ (W.drew.cell? ⟨q, 0, none⟩ = some y0 ∧ W.drew.cell? ⟨q, 1, none⟩ = some y1 ∧ W.drew.cell? ⟨q, 2, none⟩ = some y2 ∧ W.drew.cell? ⟨q, 3, none⟩ = some y3 ∧ W.drew.cell? ⟨q, 4, none⟩ = some y4 ∧ W.drew.cell? ⟨q, 5, none⟩ = some y5 ∧ (∀ o, W.drew.frozen? ⟨q, o, none⟩ = false) ∧ q < W.drew.heap.size) ∧ Kp A W.drew := ⟨sf_drew h.1, bx6_drew h.2.1, bx6_drew h.2.2.1, h.2.2.2.drew⟩
theorem sq6_alloc {w W A : World} {b p q E M : Nat} {x0 x1 x2 x3 x4 x5 y0 y1 y2 y3 y4 y5 : Value} (h : (W.cell? ⟨b, 0, none⟩ = some (.int .u8 (E : Int)) ∧ W.cell? ⟨b, 1, none⟩ = some (.int .u8 (M : Int)) ∧ b < W.heap.size ∧ Below w.heap.size w W) ∧ (W.cell? ⟨p, 0, none⟩ = some x0 ∧ W.cell? ⟨p, 1, none⟩ = some x1 ∧ W.cell? ⟨p, 2, none⟩ = some x2 ∧ W.cell? ⟨p, 3, none⟩ = some x3 ∧ W.cell? ⟨p, 4, none⟩ = some x4 ∧ W.cell? ⟨p, 5, none⟩ = some x5 ∧ (∀ o, W.frozen? ⟨p, o, none⟩ = false) ∧ p < W.heap.size) ∧ (W.cell? ⟨q, 0, none⟩ = some y0 ∧ W.cell? ⟨q, 1, none⟩ = some y1 ∧ W.cell? ⟨q, 2, none⟩ = some y2 ∧ W.cell? ⟨q, 3, none⟩ = some y3 ∧ W.cell? ⟨q, 4, none⟩ = some y4 ∧ W.cell? ⟨q, 5, none⟩ = some y5 ∧ (∀ o, W.frozen? ⟨q, o, none⟩ = false) ∧ q < W.heap.size) ∧ Kp A W) (ob : Obj) : ((W.alloc ob).cell? ⟨b, 0, none⟩ = some (.int .u8 (E : Int)) ∧ (W.alloc ob).cell? ⟨b, 1, none⟩ = some (.int .u8 (M : Int)) ∧ b < (W.alloc ob).heap.size ∧ Below w.heap.size w (W.alloc ob)) ∧ ((W.alloc ob).cell? ⟨p, 0, none⟩ = some x0 ∧ (W.alloc ob).cell? ⟨p, 1, none⟩ = some x1 ∧ (W.alloc ob).cell? ⟨p, 2, none⟩ = some x2 ∧ (W.alloc ob).cell? ⟨p, 3, none⟩ = some x3 ∧ (W.alloc ob).cell? ⟨p, 4, none⟩ = some x4 ∧ (W.alloc ob).cell? ⟨p, 5, none⟩ = some x5 ∧ (∀ o, (W.alloc ob).frozen? ⟨p, o, none⟩ = false) ∧ p < (W.alloc ob).heap.size) ∧ ((W.alloc ob).cell? ⟨q, 0, none⟩ = some y0 ∧ (W.alloc ob).cell? ⟨q, 1, none⟩ = some y1 ∧ (W.alloc ob).cell? ⟨q, 2, none⟩ = some y2 ∧ (W.alloc ob).cell? ⟨q, 3, none⟩ = some y3 ∧ (W.alloc ob).cell? ⟨q, 4, none⟩ = some y4 ∧ (W.alloc ob).cell? ⟨q, 5, none⟩ = some y5 ∧ (∀ o, (W.alloc ob).frozen? ⟨q, o, none⟩ = false) ∧ q < (W.alloc ob).heap.size) ∧ Kp A (W.alloc ob) := sq6_next h ((Below.refl _ _).alloc (Nat.le_refl _) ob)

set_option maxRecDepth 100000 in
set_option maxHeartbeats 8000000 in
theorem add2X (E M : Nat) (h : FOk E M) (mo a b F NA : Nat) (X1 X2 p1 q1 p2 q2 : Nat) (N1 N2 G1 G2 : Bool) (C1 C2 : Int) (hc1 : C1 = 0 ∨ C1 = 3 ∨ C1 = 4 ∨ (C1 ≠ 0 ∧ C1 ≠ 3 ∧ C1 ≠ 4)) (hc2 : C2 = 0 ∨ C2 = 3 ∨ C2 = 4 ∨ (C2 ≠ 0 ∧ C2 ≠ 3 ∧ C2 ≠ 4))
    (HA : Hid (∀ w, Calls Oajg.prog 63 #[.agg #[.int .u8 (E : Int), .int .u8 (M : Int)], .int .u64 (a : Int)] w fun e w' => ∃ a1 k1 c1 a2 k2 c2, e = .returned (.agg #[.int .u64 (X1 : Int), .bool N1, .int .i8 C1, .bool G1, .slice a1 k1 c1, .slice a2 k2 c2]) ∧ NatIs 2050 w' (.slice a1 k1 c1) p1 ∧ NatIs 2050 w' (.slice a2 k2 c2) q1 ∧ Below w.heap.size w w'))
    (HB : Hid (∀ w, Calls Oajg.prog 63 #[.agg #[.int .u8 (E : Int), .int .u8 (M : Int)], .int .u64 (b : Int)] w fun e w' => ∃ a1 k1 c1 a2 k2 c2, e = .returned (.agg #[.int .u64 (X2 : Int), .bool N2, .int .i8 C2, .bool G2, .slice a1 k1 c1, .slice a2 k2 c2]) ∧ NatIs 2050 w' (.slice a1 k1 c1) p2 ∧ NatIs 2050 w' (.slice a2 k2 c2) q2 ∧ Below w.heap.size w w'))
    (HHE : Hid (∀ w, Calls Oajg.prog 65 #[.agg #[.int .u8 (E : Int), .int .u8 (M : Int)], .int .u64 (a : Int), .int .u64 (b : Int)] w fun e w' => ∃ fl, e = .returned (.int .u8 fl) ∧ Below w.heap.size w w'))
    (hNA : nanN E M = NA) (hq1 : q1 ≠ 0) (hq2 : q2 ≠ 0)
    (hX1 : C1 = 3 → X1 = sgnd E M N1 (infN E M)) (hX2 : C2 = 3 → X2 = sgnd E M N2 (infN E M))
    (HF0 : Hid (C1 ≠ 3 → C1 ≠ 4 → C2 ≠ 3 → C2 ≠ 4 → F = if adNum G1 G2 (p1 * q2) (p2 * q1) = 0 then sgnd E M (if N1 = N2 then N1 else decide (mo = 4)) 0 else rfN E M mo (adNeg G1 G2 (p1 * q2) (p2 * q1)) (adNum G1 G2 (p1 * q2) (p2 * q1)) (q1 * q2)))
    (w : World) : Calls Oajg.prog 147 #[.agg #[.int .u8 (E : Int), .int .u8 (M : Int)], .int .u8 (mo : Int), .int .u64 (a : Int), .int .u64 (b : Int)] w fun e w' => ∃ fl, e = .returned (.tuple #[.int .u64 (adC E M C1 C2 N1 N2 F : Nat), .int .u8 fl]) ∧ Below w.heap.size w w' := by
  have HO : Hid (∀ w, Calls Oajg.prog 17 #[.agg #[.int .u8 (E : Int), .int .u8 (M : Int)]] w fun e w' => e = .returned (.bool true) ∧ Below w.heap.size w w') := ok_yes h
  have HNA : Hid (∀ w, Calls Oajg.prog 64 #[.agg #[.int .u8 (E : Int), .int .u8 (M : Int)]] w fun e w' => e = .returned (.int .u64 (NA : Int)) ∧ Below w.heap.size w w') := by rw [← hNA]; exact nan_ok E M h
  have HIN : Hid (∀ n w, Calls Oajg.prog 84 #[.agg #[.int .u8 (E : Int), .int .u8 (M : Int)], .bool n] w fun e w' => e = .returned (.int .u64 (sgnd E M n (infN E M) : Nat)) ∧ Below w.heap.size w w') := fun n => inf_ok E M h n
  have HZE : Hid (∀ n w, Calls Oajg.prog 119 #[.agg #[.int .u8 (E : Int), .int .u8 (M : Int)], .bool n] w fun e w' => e = .returned (.int .u64 (sgnd E M n 0 : Nat)) ∧ Below w.heap.size w w') := fun n => zeroX_ok E M h n
  have HFO : Hid (FOk E M) := h
  obtain ⟨RN, HRN⟩ : ∃ RN, Hid (RN = adC E M C1 C2 N1 N2 F) := ⟨_, rfl⟩
  rw [← HRN.out]
  have hS := sf_box w E M
  clear h
  have hnil := eql_nil
  obtain ⟨MB, hMB⟩ : ∃ MB, decide (mo = 4) = MB := ⟨_, rfl⟩
  have kMB : ((mo : Int) == 4) = MB := by
    rw [← hMB]
    by_cases hm : mo = 4
    · simp [hm]
    · have : ¬ (mo : Int) = 4 := by omega
      simp [hm, this]
  rw [hMB] at HF0
  clear hMB
  go_enter Oajg.func147, Oajg.ntmps147
  go_wp2_with fail
  refine Calls.mono (HO.out _) ?_
  rintro _ w0 ⟨rfl, hq⟩
  replace hS := sf_next hS hq
  clear hq HO
  have hn0 := hS.2.2.1
  go_wp2_with fail
  have hlt2 : ∀ n : Nat, n < n + 1 + 1 := fun n => by omega
  go_cut [10, 11] (fun s7 s8 W => ∃ p q a1 k1 c1 a2 k2 c2 a3 k3 c3 a4 k4 c4, s7 = .pointer (some ⟨p, 0, none⟩) ∧ s8 = .pointer (some ⟨q, 0, none⟩) ∧ p ≠ q ∧ w.heap.size < p ∧ w.heap.size < q ∧
    (W.cell? ⟨p, 0, none⟩ = some (.int .u64 (X1 : Int)) ∧ W.cell? ⟨p, 1, none⟩ = some (.bool N1) ∧ W.cell? ⟨p, 2, none⟩ = some (.int .i8 C1) ∧ W.cell? ⟨p, 3, none⟩ = some (.bool G1) ∧ W.cell? ⟨p, 4, none⟩ = some (.slice a1 k1 c1) ∧ W.cell? ⟨p, 5, none⟩ = some (.slice a2 k2 c2) ∧ (∀ o, W.frozen? ⟨p, o, none⟩ = false) ∧ p < W.heap.size) ∧ (W.cell? ⟨q, 0, none⟩ = some (.int .u64 (X2 : Int)) ∧ W.cell? ⟨q, 1, none⟩ = some (.bool N2) ∧ W.cell? ⟨q, 2, none⟩ = some (.int .i8 C2) ∧ W.cell? ⟨q, 3, none⟩ = some (.bool G2) ∧ W.cell? ⟨q, 4, none⟩ = some (.slice a3 k3 c3) ∧ W.cell? ⟨q, 5, none⟩ = some (.slice a4 k4 c4) ∧ (∀ o, W.frozen? ⟨q, o, none⟩ = false) ∧ q < W.heap.size) ∧ (W.cell? ⟨w.heap.size, 0, none⟩ = some (.int .u8 (E : Int)) ∧ W.cell? ⟨w.heap.size, 1, none⟩ = some (.int .u8 (M : Int)) ∧ w.heap.size < W.heap.size ∧ Below w.heap.size w W) ∧
    (∃ Wb, NatIs 2050 Wb (.slice a1 k1 c1) p1 ∧ NatIs 2050 Wb (.slice a2 k2 c2) q1 ∧ NatIs 2050 Wb (.slice a3 k3 c3) p2 ∧ NatIs 2050 Wb (.slice a4 k4 c4) q2 ∧ Kp Wb W))
  case first =>
    go_region_held3 (fun W => W.cell? ⟨w.heap.size, 0, none⟩ = some (.int .u8 (E : Int)) ∧ W.cell? ⟨w.heap.size, 1, none⟩ = some (.int .u8 (M : Int)) ∧ w.heap.size < W.heap.size ∧ Below w.heap.size w W) ((repeat' (first | with_reducible assumption | with_reducible refine sf_drew ?_ | with_reducible refine sf_alloc ?_ _ | with_reducible refine sf_store ?_ ?_ | (simp only [World.size_alloc, World.size_drew, World.size_setCell]; omega) | omega))) ((go_at_call 63; first | ((with_reducible refine Calls.mono (HA.out _) ?_); rintro _ wa ⟨a1, k1, c1, a2, k2, c2, rfl, hN1, hN2, hb⟩; have hS1 := sf_next (by with_reducible assumption) hb; have hn1 := hS1.2.2.1; have hzn := hb.size; obtain ⟨hc, hf, hz⟩ := bfacts2 hb; (try simp only [World.size_alloc, World.size_drew] at hc hf hz hzn); (try have hk0 : w0.heap.size < wa.heap.size := hz _ (by omega)); (try have hk1 : w0.heap.size + 1 < wa.heap.size := hz _ (by omega)); (try have hk2 : w0.heap.size < wa.heap.size + 1 := by omega); (try have hk3 : w0.heap.size < wa.heap.size + 1 + 1 := by omega); (try have hne0 : w0.heap.size ≠ wa.heap.size := by omega); (try have hne1 : wa.heap.size ≠ w0.heap.size := by omega); have HN1 : Hid (NatIs 2050 wa (.slice a1 k1 c1) p1) := hN1; have HN2 : Hid (NatIs 2050 wa (.slice a2 k2 c2) q1) := hN2; clear hb hN1 hN2) | ((with_reducible refine Calls.mono (HB.out _) ?_); rintro _ wb ⟨a3, k3, c3, a4, k4, c4, rfl, hN3, hN4, hb⟩; have hS1 := sf_next (by with_reducible assumption) hb; have hn1 := hS1.2.2.1; have hzn := hb.size; obtain ⟨hc, hf, hz⟩ := bfacts2 hb; (try simp only [World.size_alloc, World.size_drew] at hc hf hz hzn); (try have hk0 : w0.heap.size < wb.heap.size := hz _ (by omega)); (try have hk1 : w0.heap.size + 1 < wb.heap.size := hz _ (by omega)); (try have hk2 : w0.heap.size < wb.heap.size + 1 := by omega); (try have hk3 : w0.heap.size < wb.heap.size + 1 + 1 := by omega); (try have hne0 : w0.heap.size ≠ wb.heap.size := by omega); (try have hne1 : wb.heap.size ≠ w0.heap.size := by omega); have HKK : Hid (Kp wa wb) := Kp.trans (by first | with_reducible exact Kp.refl _ | with_reducible exact (Kp.refl _).alloc _ | with_reducible exact ((Kp.refl _).alloc _).alloc _) (Kp.of hb); have HN3 : Hid (NatIs 2050 wb (.slice a3 k3 c3) p2) := hN3; have HN4 : Hid (NatIs 2050 wb (.slice a4 k4 c4) q2) := hN4; clear hb hN3 hN4)))
    all_goals go_wp2_with fail
    all_goals go_meet
    all_goals refine ⟨_, _, _, _, _, _, _, _, _, _, _, _, _, _, rfl, rfl, ?_, ?_, ?_, ⟨?_, ?_, ?_, ?_, ?_, ?_, ?_, ?_⟩, ⟨?_, ?_, ?_, ?_, ?_, ?_, ?_, ?_⟩, ?_, ⟨wb, HN1.out.kp HKK.out, HN2.out.kp HKK.out, HN3.out, HN4.out, ?_⟩⟩
    all_goals try (first
      | with_reducible assumption
      | omega
      | (simp only [World.size_alloc, World.size_drew, World.size_setCell]; omega)
      | (simp [*, go_sem]; done)
      | (intro o; simp [*, go_sem]; done))
    all_goals repeat' (first
      | with_reducible exact Kp.refl _
      | with_reducible refine Kp.alloc ?_ _
      | with_reducible refine Kp.drew ?_
      | with_reducible refine Kp.setCell (p := ⟨_, 0, none⟩) (u := .int .u64 0) ?_ (by simp [*, go_sem]; done) (not32_u64 _)
      | with_reducible refine Kp.setCell (p := ⟨_, 1, none⟩) (u := .bool false) ?_ (by simp [*, go_sem]; done) (not32_bool _)
      | with_reducible refine Kp.setCell (p := ⟨_, 2, none⟩) (u := .int .i8 0) ?_ (by simp [*, go_sem]; done) (not32_i8 _)
      | with_reducible refine Kp.setCell (p := ⟨_, 3, none⟩) (u := .bool false) ?_ (by simp [*, go_sem]; done) (not32_bool _)
      | with_reducible refine Kp.setCell (p := ⟨_, 4, none⟩) (u := .slice none 0 0) ?_ (by simp [*, go_sem]; done) (not32_slice _ _ _)
      | with_reducible refine Kp.setCell (p := ⟨_, 5, none⟩) (u := .slice none 0 0) ?_ (by simp [*, go_sem]; done) (not32_slice _ _ _))
  case rest =>
    obtain ⟨p, q, a1, k1, c1, a2, k2, c2, a3, k3, c3, a4, k4, c4, rfl, rfl, hpq, hp, hq, hP, hQ, hS2, Wb, n1, n2, n3, n4, hk⟩ := hcut
    have HN1 : Hid (NatIs 2050 Wb (.slice a1 k1 c1) p1) := n1
    have HN2 : Hid (NatIs 2050 Wb (.slice a2 k2 c2) q1) := n2
    have HN3 : Hid (NatIs 2050 Wb (.slice a3 k3 c3) p2) := n3
    have HN4 : Hid (NatIs 2050 Wb (.slice a4 k4 c4) q2) := n4
    have hG : (wc.cell? ⟨w.heap.size, 0, none⟩ = some (.int .u8 (E : Int)) ∧ wc.cell? ⟨w.heap.size, 1, none⟩ = some (.int .u8 (M : Int)) ∧ w.heap.size < wc.heap.size ∧ Below w.heap.size w wc) ∧ (wc.cell? ⟨p, 0, none⟩ = some (.int .u64 (X1 : Int)) ∧ wc.cell? ⟨p, 1, none⟩ = some (.bool N1) ∧ wc.cell? ⟨p, 2, none⟩ = some (.int .i8 C1) ∧ wc.cell? ⟨p, 3, none⟩ = some (.bool G1) ∧ wc.cell? ⟨p, 4, none⟩ = some (.slice a1 k1 c1) ∧ wc.cell? ⟨p, 5, none⟩ = some (.slice a2 k2 c2) ∧ (∀ o, wc.frozen? ⟨p, o, none⟩ = false) ∧ p < wc.heap.size) ∧ (wc.cell? ⟨q, 0, none⟩ = some (.int .u64 (X2 : Int)) ∧ wc.cell? ⟨q, 1, none⟩ = some (.bool N2) ∧ wc.cell? ⟨q, 2, none⟩ = some (.int .i8 C2) ∧ wc.cell? ⟨q, 3, none⟩ = some (.bool G2) ∧ wc.cell? ⟨q, 4, none⟩ = some (.slice a3 k3 c3) ∧ wc.cell? ⟨q, 5, none⟩ = some (.slice a4 k4 c4) ∧ (∀ o, wc.frozen? ⟨q, o, none⟩ = false) ∧ q < wc.heap.size) ∧ Kp Wb wc := ⟨hS2, hP, hQ, hk⟩
    clear n1 n2 n3 n4 hk hS hn0 hlt2 HA HB hP hQ hS2
    rcases hc1 with rfl | rfl | rfl | ⟨x10, x13, x14⟩
    · rcases hc2 with rfl | rfl | rfl | ⟨x20, x23, x24⟩
      · have HF1 := HF0.out (by decide) (by decide) (by decide) (by decide)
        have HR : Hid (RN = F) := by show _ = _; rw [HRN.out]; unfold adC; rw [if_neg (by omega), if_neg (by omega), if_neg (by omega), if_neg (by omega)]
        clear HRN HF0 hX1 hX2
        have HAD := hidden (addRat_ok G1 G2 a1 a2 a3 a4 k1 c1 k2 c2 k3 c3 k4 c4 2050 p1 q1 p2 q2 wc (HN1.out.kp hG.2.2.2) (HN2.out.kp hG.2.2.2) (HN3.out.kp hG.2.2.2) (HN4.out.kp hG.2.2.2) (by decide))
        obtain ⟨nn, hnn⟩ : ∃ nn, nn = adNum G1 G2 (p1 * q2) (p2 * q1) := ⟨_, rfl⟩
        obtain ⟨ng, hng⟩ : ∃ ng, ng = adNeg G1 G2 (p1 * q2) (p2 * q1) := ⟨_, rfl⟩
        rw [← hnn, ← hng] at HAD
        rw [← hnn, ← hng] at HF1
        have hqq : q1 * q2 ≠ 0 := Nat.mul_ne_zero hq1 hq2
        obtain ⟨dd, hdd⟩ : ∃ dd, dd = q1 * q2 := ⟨_, rfl⟩
        rw [← hdd] at HAD HF1 hqq
        clear hnn hng hdd HN1 HN2 HN3 HN4
        go_wp2_with fail
        refine Calls.mono HAD.out ?_
        rintro _ w5 ⟨b1, l1, e1, b2, l2, e2, rfl, hM1, hM2, hb⟩
        have hG5 := sq6_alloc (sq6_next hG hb) (.cells #[.bool ng, .slice b1 l1 e1, .slice b2 l2 e2] 48)
        have hR3 := bx3_made w5 (m := w5.heap.size) (.bool ng) (.slice b1 l1 e1) (.slice b2 l2 e2) 48 rfl
        have HM1 : Hid (NatIs (4 * 2050 + 1) (w5.alloc (.cells #[.bool ng, .slice b1 l1 e1, .slice b2 l2 e2] 48)) (.slice b1 l1 e1) nn) := hM1.kept ((Below.refl _ _).alloc (Nat.le_refl _) _)
        have HM2 : Hid (NatIs (4 * 2050 + 1) (w5.alloc (.cells #[.bool ng, .slice b1 l1 e1, .slice b2 l2 e2] 48)) (.slice b2 l2 e2) dd) := hM2.kept ((Below.refl _ _).alloc (Nat.le_refl _) _)
        have hne := hM1.none_eq
        clear hb hG HAD hM1 hM2
        by_cases hz : nn = 0
        · have hz2 : (nn == 0) = true := by simp [hz]
          rw [hz2] at hne
          rw [if_pos hz] at HF1
          clear hz hz2
          by_cases hn : N1 = N2
          · have HF2 : Hid (F = sgnd E M N1 0) := by show _ = _; rw [HF1, if_pos hn]
            clear HF1
            subst hn
            cases N1
            all_goals
              go_wp2_with fail
              refine Calls.mono (HZE.out _ _) ?_
              rintro _ w6 ⟨rfl, hb⟩
              have hG6 := sq6_next hG5 hb
              clear hb
              go_wp2_with fail
              go_ret2
              exact ⟨_, by rw [HR.out, HF2.out]; rfl, hG6.1.2.2.2⟩
          · have HF2 : Hid (F = sgnd E M MB 0) := by show _ = _; rw [HF1, if_neg hn]
            clear HF1
            cases N1 <;> cases N2 <;> simp at hn
            all_goals
              go_wp2_with fail
              refine Calls.mono (HZE.out _ _) ?_
              rintro _ w6 ⟨rfl, hb⟩
              have hG6 := sq6_next hG5 hb
              clear hb
              go_wp2_with fail
              go_ret2
              exact ⟨_, by rw [HR.out, HF2.out]; rfl, hG6.1.2.2.2⟩
        · have hz2 : (nn == 0) = false := by simp [hz]
          rw [hz2] at hne
          rw [if_neg hz] at HF1
          have HRX := hidden (roundFlags_ok E M HFO.out mo ng (4 * 2050 + 1) nn dd b1 b2 l1 e1 l2 e2 _ HM1.out HM2.out (by decide) hqq)
          have HF2 : Hid (F = rfN E M mo ng nn dd) := HF1
          clear HF1 hz hz2
          generalize rfN E M mo ng nn dd = ZN at *
          generalize rfF E M mo ng nn dd = ZF at *
          go_wp2_with fail
          refine Calls.mono HRX.out ?_
          rintro _ w6 ⟨rfl, hb⟩
          have hG6 := sq6_next hG5 hb
          clear hb
          go_wp2_with fail
          go_ret2
          exact ⟨_, by rw [HR.out, HF2.out]; rfl, hG6.1.2.2.2⟩
      · have hX2b := hX2 rfl
        have HR : Hid (RN = X2) := by show _ = _; rw [HRN.out]; rw [hX2b]; simp [adC]
        clear hX2b hX1 hX2
        go_wp2_with fail
        go_ret2
        exact ⟨_, by rw [HR.out]; rfl, hG.1.2.2.2⟩
      · have HR : Hid (RN = NA) := by show _ = _; rw [HRN.out]; simp [adC, hNA, *]
        go_wp2_with fail
        go_region_held3 (fun W => (W.cell? ⟨w.heap.size, 0, none⟩ = some (.int .u8 (E : Int)) ∧ W.cell? ⟨w.heap.size, 1, none⟩ = some (.int .u8 (M : Int)) ∧ w.heap.size < W.heap.size ∧ Below w.heap.size w W) ∧ (W.cell? ⟨p, 0, none⟩ = some (.int .u64 (X1 : Int)) ∧ W.cell? ⟨p, 1, none⟩ = some (.bool N1) ∧ W.cell? ⟨p, 2, none⟩ = some (.int .i8 0) ∧ W.cell? ⟨p, 3, none⟩ = some (.bool G1) ∧ W.cell? ⟨p, 4, none⟩ = some (.slice a1 k1 c1) ∧ W.cell? ⟨p, 5, none⟩ = some (.slice a2 k2 c2) ∧ (∀ o, W.frozen? ⟨p, o, none⟩ = false) ∧ p < W.heap.size) ∧ (W.cell? ⟨q, 0, none⟩ = some (.int .u64 (X2 : Int)) ∧ W.cell? ⟨q, 1, none⟩ = some (.bool N2) ∧ W.cell? ⟨q, 2, none⟩ = some (.int .i8 4) ∧ W.cell? ⟨q, 3, none⟩ = some (.bool G2) ∧ W.cell? ⟨q, 4, none⟩ = some (.slice a3 k3 c3) ∧ W.cell? ⟨q, 5, none⟩ = some (.slice a4 k4 c4) ∧ (∀ o, W.frozen? ⟨q, o, none⟩ = false) ∧ q < W.heap.size) ∧ Kp Wb W)
          ((repeat' (first | with_reducible assumption | with_reducible refine sq6_drew ?_)))
          ((first | (go_at_call 64; refine Calls.mono (HNA.out _) ?_; rintro _ w4 ⟨rfl, hb⟩; have hG4 := sq6_next (by with_reducible assumption) hb; clear hb) | (go_at_call 65; refine Calls.mono (HHE.out _) ?_; rintro _ w5 ⟨fl, rfl, hb⟩; have hG5 := sq6_next (by with_reducible assumption) hb; clear hb)))
        go_wp2_with fail
        go_ret2
        exact ⟨_, by rw [HR.out]; rfl, by first | exact hG5.1.2.2.2 | exact hG4.1.2.2.2⟩
      · have j20 : (C2 == 0) = false := by simp [x20]
        have j23 : (C2 == 3) = false := by simp [x23]
        have j24 : (C2 == 4) = false := by simp [x24]
        have HF1 := HF0.out (by decide) (by decide) (by exact x23) (by exact x24)
        have HR : Hid (RN = F) := by show _ = _; rw [HRN.out]; unfold adC; rw [if_neg (by omega), if_neg (by omega), if_neg (by omega), if_neg (by omega)]
        clear HRN HF0 hX1 hX2
        clear x20 x23 x24
        have HAD := hidden (addRat_ok G1 G2 a1 a2 a3 a4 k1 c1 k2 c2 k3 c3 k4 c4 2050 p1 q1 p2 q2 wc (HN1.out.kp hG.2.2.2) (HN2.out.kp hG.2.2.2) (HN3.out.kp hG.2.2.2) (HN4.out.kp hG.2.2.2) (by decide))
        obtain ⟨nn, hnn⟩ : ∃ nn, nn = adNum G1 G2 (p1 * q2) (p2 * q1) := ⟨_, rfl⟩
        obtain ⟨ng, hng⟩ : ∃ ng, ng = adNeg G1 G2 (p1 * q2) (p2 * q1) := ⟨_, rfl⟩
        rw [← hnn, ← hng] at HAD
        rw [← hnn, ← hng] at HF1
        have hqq : q1 * q2 ≠ 0 := Nat.mul_ne_zero hq1 hq2
        obtain ⟨dd, hdd⟩ : ∃ dd, dd = q1 * q2 := ⟨_, rfl⟩
        rw [← hdd] at HAD HF1 hqq
        clear hnn hng hdd HN1 HN2 HN3 HN4
        go_wp2_with fail
        refine Calls.mono HAD.out ?_
        rintro _ w5 ⟨b1, l1, e1, b2, l2, e2, rfl, hM1, hM2, hb⟩
        have hG5 := sq6_alloc (sq6_next hG hb) (.cells #[.bool ng, .slice b1 l1 e1, .slice b2 l2 e2] 48)
        have hR3 := bx3_made w5 (m := w5.heap.size) (.bool ng) (.slice b1 l1 e1) (.slice b2 l2 e2) 48 rfl
        have HM1 : Hid (NatIs (4 * 2050 + 1) (w5.alloc (.cells #[.bool ng, .slice b1 l1 e1, .slice b2 l2 e2] 48)) (.slice b1 l1 e1) nn) := hM1.kept ((Below.refl _ _).alloc (Nat.le_refl _) _)
        have HM2 : Hid (NatIs (4 * 2050 + 1) (w5.alloc (.cells #[.bool ng, .slice b1 l1 e1, .slice b2 l2 e2] 48)) (.slice b2 l2 e2) dd) := hM2.kept ((Below.refl _ _).alloc (Nat.le_refl _) _)
        have hne := hM1.none_eq
        clear hb hG HAD hM1 hM2
        by_cases hz : nn = 0
        · have hz2 : (nn == 0) = true := by simp [hz]
          rw [hz2] at hne
          rw [if_pos hz] at HF1
          clear hz hz2
          by_cases hn : N1 = N2
          · have HF2 : Hid (F = sgnd E M N1 0) := by show _ = _; rw [HF1, if_pos hn]
            clear HF1
            subst hn
            cases N1
            all_goals
              go_wp2_with fail
              refine Calls.mono (HZE.out _ _) ?_
              rintro _ w6 ⟨rfl, hb⟩
              have hG6 := sq6_next hG5 hb
              clear hb
              go_wp2_with fail
              go_ret2
              exact ⟨_, by rw [HR.out, HF2.out]; rfl, hG6.1.2.2.2⟩
          · have HF2 : Hid (F = sgnd E M MB 0) := by show _ = _; rw [HF1, if_neg hn]
            clear HF1
            cases N1 <;> cases N2 <;> simp at hn
            all_goals
              go_wp2_with fail
              refine Calls.mono (HZE.out _ _) ?_
              rintro _ w6 ⟨rfl, hb⟩
              have hG6 := sq6_next hG5 hb
              clear hb
              go_wp2_with fail
              go_ret2
              exact ⟨_, by rw [HR.out, HF2.out]; rfl, hG6.1.2.2.2⟩
        · have hz2 : (nn == 0) = false := by simp [hz]
          rw [hz2] at hne
          rw [if_neg hz] at HF1
          have HRX := hidden (roundFlags_ok E M HFO.out mo ng (4 * 2050 + 1) nn dd b1 b2 l1 e1 l2 e2 _ HM1.out HM2.out (by decide) hqq)
          have HF2 : Hid (F = rfN E M mo ng nn dd) := HF1
          clear HF1 hz hz2
          generalize rfN E M mo ng nn dd = ZN at *
          generalize rfF E M mo ng nn dd = ZF at *
          go_wp2_with fail
          refine Calls.mono HRX.out ?_
          rintro _ w6 ⟨rfl, hb⟩
          have hG6 := sq6_next hG5 hb
          clear hb
          go_wp2_with fail
          go_ret2
          exact ⟨_, by rw [HR.out, HF2.out]; rfl, hG6.1.2.2.2⟩
    · rcases hc2 with rfl | rfl | rfl | ⟨x20, x23, x24⟩
      · have hX1b := hX1 rfl
        have HR : Hid (RN = X1) := by show _ = _; rw [HRN.out]; rw [hX1b]; simp [adC]
        clear hX1b hX1 hX2
        go_wp2_with fail
        go_ret2
        exact ⟨_, by rw [HR.out]; rfl, hG.1.2.2.2⟩
      · have hX1b := hX1 rfl
        clear hX1 hX2
        by_cases hn : N1 = N2
        · subst hn
          have HR : Hid (RN = X1) := by show _ = _; rw [HRN.out, hX1b]; simp [adC]
          clear HRN hX1b
          cases N1
          all_goals
            go_wp2_with fail
            go_ret2
            first
              | exact ⟨_, by rw [HR.out]; rfl, hG.1.2.2.2⟩
              | exact ⟨⟨_, by rw [HR.out]; rfl⟩, hG.1.2.2.2⟩
        · have HR : Hid (RN = NA) := by show _ = _; rw [HRN.out]; simp [adC, hn, hNA]
          clear HRN hX1b
          cases N1 <;> cases N2 <;> simp at hn
          all_goals
            go_wp2_with fail
            refine Calls.mono (HNA.out _) ?_
            rintro _ w4 ⟨rfl, hb⟩
            have hG4 := sq6_next hG hb
            clear hb
            go_wp2_with fail
            go_ret2
            exact ⟨_, by rw [HR.out]; rfl, hG4.1.2.2.2⟩
      · have HR : Hid (RN = NA) := by show _ = _; rw [HRN.out]; simp [adC, hNA, *]
        go_wp2_with fail
        go_region_held3 (fun W => (W.cell? ⟨w.heap.size, 0, none⟩ = some (.int .u8 (E : Int)) ∧ W.cell? ⟨w.heap.size, 1, none⟩ = some (.int .u8 (M : Int)) ∧ w.heap.size < W.heap.size ∧ Below w.heap.size w W) ∧ (W.cell? ⟨p, 0, none⟩ = some (.int .u64 (X1 : Int)) ∧ W.cell? ⟨p, 1, none⟩ = some (.bool N1) ∧ W.cell? ⟨p, 2, none⟩ = some (.int .i8 3) ∧ W.cell? ⟨p, 3, none⟩ = some (.bool G1) ∧ W.cell? ⟨p, 4, none⟩ = some (.slice a1 k1 c1) ∧ W.cell? ⟨p, 5, none⟩ = some (.slice a2 k2 c2) ∧ (∀ o, W.frozen? ⟨p, o, none⟩ = false) ∧ p < W.heap.size) ∧ (W.cell? ⟨q, 0, none⟩ = some (.int .u64 (X2 : Int)) ∧ W.cell? ⟨q, 1, none⟩ = some (.bool N2) ∧ W.cell? ⟨q, 2, none⟩ = some (.int .i8 4) ∧ W.cell? ⟨q, 3, none⟩ = some (.bool G2) ∧ W.cell? ⟨q, 4, none⟩ = some (.slice a3 k3 c3) ∧ W.cell? ⟨q, 5, none⟩ = some (.slice a4 k4 c4) ∧ (∀ o, W.frozen? ⟨q, o, none⟩ = false) ∧ q < W.heap.size) ∧ Kp Wb W)
          ((repeat' (first | with_reducible assumption | with_reducible refine sq6_drew ?_)))
          ((first | (go_at_call 64; refine Calls.mono (HNA.out _) ?_; rintro _ w4 ⟨rfl, hb⟩; have hG4 := sq6_next (by with_reducible assumption) hb; clear hb) | (go_at_call 65; refine Calls.mono (HHE.out _) ?_; rintro _ w5 ⟨fl, rfl, hb⟩; have hG5 := sq6_next (by with_reducible assumption) hb; clear hb)))
        go_wp2_with fail
        go_ret2
        exact ⟨_, by rw [HR.out]; rfl, by first | exact hG5.1.2.2.2 | exact hG4.1.2.2.2⟩
      · have j20 : (C2 == 0) = false := by simp [x20]
        have j23 : (C2 == 3) = false := by simp [x23]
        have j24 : (C2 == 4) = false := by simp [x24]
        have hX1b := hX1 rfl
        have HR : Hid (RN = X1) := by show _ = _; rw [HRN.out]; rw [hX1b]; simp [adC, x23, x24]
        clear hX1b hX1 hX2
        clear x20 x23 x24
        go_wp2_with fail
        go_ret2
        exact ⟨_, by rw [HR.out]; rfl, hG.1.2.2.2⟩
    · rcases hc2 with rfl | rfl | rfl | ⟨x20, x23, x24⟩
      · have HR : Hid (RN = NA) := by show _ = _; rw [HRN.out]; simp [adC, hNA, *]
        go_wp2_with fail
        go_region_held3 (fun W => (W.cell? ⟨w.heap.size, 0, none⟩ = some (.int .u8 (E : Int)) ∧ W.cell? ⟨w.heap.size, 1, none⟩ = some (.int .u8 (M : Int)) ∧ w.heap.size < W.heap.size ∧ Below w.heap.size w W) ∧ (W.cell? ⟨p, 0, none⟩ = some (.int .u64 (X1 : Int)) ∧ W.cell? ⟨p, 1, none⟩ = some (.bool N1) ∧ W.cell? ⟨p, 2, none⟩ = some (.int .i8 4) ∧ W.cell? ⟨p, 3, none⟩ = some (.bool G1) ∧ W.cell? ⟨p, 4, none⟩ = some (.slice a1 k1 c1) ∧ W.cell? ⟨p, 5, none⟩ = some (.slice a2 k2 c2) ∧ (∀ o, W.frozen? ⟨p, o, none⟩ = false) ∧ p < W.heap.size) ∧ (W.cell? ⟨q, 0, none⟩ = some (.int .u64 (X2 : Int)) ∧ W.cell? ⟨q, 1, none⟩ = some (.bool N2) ∧ W.cell? ⟨q, 2, none⟩ = some (.int .i8 0) ∧ W.cell? ⟨q, 3, none⟩ = some (.bool G2) ∧ W.cell? ⟨q, 4, none⟩ = some (.slice a3 k3 c3) ∧ W.cell? ⟨q, 5, none⟩ = some (.slice a4 k4 c4) ∧ (∀ o, W.frozen? ⟨q, o, none⟩ = false) ∧ q < W.heap.size) ∧ Kp Wb W)
          ((repeat' (first | with_reducible assumption | with_reducible refine sq6_drew ?_)))
          ((first | (go_at_call 64; refine Calls.mono (HNA.out _) ?_; rintro _ w4 ⟨rfl, hb⟩; have hG4 := sq6_next (by with_reducible assumption) hb; clear hb) | (go_at_call 65; refine Calls.mono (HHE.out _) ?_; rintro _ w5 ⟨fl, rfl, hb⟩; have hG5 := sq6_next (by with_reducible assumption) hb; clear hb)))
        go_wp2_with fail
        go_ret2
        exact ⟨_, by rw [HR.out]; rfl, by first | exact hG5.1.2.2.2 | exact hG4.1.2.2.2⟩
      · have HR : Hid (RN = NA) := by show _ = _; rw [HRN.out]; simp [adC, hNA, *]
        go_wp2_with fail
        go_region_held3 (fun W => (W.cell? ⟨w.heap.size, 0, none⟩ = some (.int .u8 (E : Int)) ∧ W.cell? ⟨w.heap.size, 1, none⟩ = some (.int .u8 (M : Int)) ∧ w.heap.size < W.heap.size ∧ Below w.heap.size w W) ∧ (W.cell? ⟨p, 0, none⟩ = some (.int .u64 (X1 : Int)) ∧ W.cell? ⟨p, 1, none⟩ = some (.bool N1) ∧ W.cell? ⟨p, 2, none⟩ = some (.int .i8 4) ∧ W.cell? ⟨p, 3, none⟩ = some (.bool G1) ∧ W.cell? ⟨p, 4, none⟩ = some (.slice a1 k1 c1) ∧ W.cell? ⟨p, 5, none⟩ = some (.slice a2 k2 c2) ∧ (∀ o, W.frozen? ⟨p, o, none⟩ = false) ∧ p < W.heap.size) ∧ (W.cell? ⟨q, 0, none⟩ = some (.int .u64 (X2 : Int)) ∧ W.cell? ⟨q, 1, none⟩ = some (.bool N2) ∧ W.cell? ⟨q, 2, none⟩ = some (.int .i8 3) ∧ W.cell? ⟨q, 3, none⟩ = some (.bool G2) ∧ W.cell? ⟨q, 4, none⟩ = some (.slice a3 k3 c3) ∧ W.cell? ⟨q, 5, none⟩ = some (.slice a4 k4 c4) ∧ (∀ o, W.frozen? ⟨q, o, none⟩ = false) ∧ q < W.heap.size) ∧ Kp Wb W)
          ((repeat' (first | with_reducible assumption | with_reducible refine sq6_drew ?_)))
          ((first | (go_at_call 64; refine Calls.mono (HNA.out _) ?_; rintro _ w4 ⟨rfl, hb⟩; have hG4 := sq6_next (by with_reducible assumption) hb; clear hb) | (go_at_call 65; refine Calls.mono (HHE.out _) ?_; rintro _ w5 ⟨fl, rfl, hb⟩; have hG5 := sq6_next (by with_reducible assumption) hb; clear hb)))
        go_wp2_with fail
        go_ret2
        exact ⟨_, by rw [HR.out]; rfl, by first | exact hG5.1.2.2.2 | exact hG4.1.2.2.2⟩
      · have HR : Hid (RN = NA) := by show _ = _; rw [HRN.out]; simp [adC, hNA, *]
        go_wp2_with fail
        go_region_held3 (fun W => (W.cell? ⟨w.heap.size, 0, none⟩ = some (.int .u8 (E : Int)) ∧ W.cell? ⟨w.heap.size, 1, none⟩ = some (.int .u8 (M : Int)) ∧ w.heap.size < W.heap.size ∧ Below w.heap.size w W) ∧ (W.cell? ⟨p, 0, none⟩ = some (.int .u64 (X1 : Int)) ∧ W.cell? ⟨p, 1, none⟩ = some (.bool N1) ∧ W.cell? ⟨p, 2, none⟩ = some (.int .i8 4) ∧ W.cell? ⟨p, 3, none⟩ = some (.bool G1) ∧ W.cell? ⟨p, 4, none⟩ = some (.slice a1 k1 c1) ∧ W.cell? ⟨p, 5, none⟩ = some (.slice a2 k2 c2) ∧ (∀ o, W.frozen? ⟨p, o, none⟩ = false) ∧ p < W.heap.size) ∧ (W.cell? ⟨q, 0, none⟩ = some (.int .u64 (X2 : Int)) ∧ W.cell? ⟨q, 1, none⟩ = some (.bool N2) ∧ W.cell? ⟨q, 2, none⟩ = some (.int .i8 4) ∧ W.cell? ⟨q, 3, none⟩ = some (.bool G2) ∧ W.cell? ⟨q, 4, none⟩ = some (.slice a3 k3 c3) ∧ W.cell? ⟨q, 5, none⟩ = some (.slice a4 k4 c4) ∧ (∀ o, W.frozen? ⟨q, o, none⟩ = false) ∧ q < W.heap.size) ∧ Kp Wb W)
          ((repeat' (first | with_reducible assumption | with_reducible refine sq6_drew ?_)))
          ((first | (go_at_call 64; refine Calls.mono (HNA.out _) ?_; rintro _ w4 ⟨rfl, hb⟩; have hG4 := sq6_next (by with_reducible assumption) hb; clear hb) | (go_at_call 65; refine Calls.mono (HHE.out _) ?_; rintro _ w5 ⟨fl, rfl, hb⟩; have hG5 := sq6_next (by with_reducible assumption) hb; clear hb)))
        go_wp2_with fail
        go_ret2
        exact ⟨_, by rw [HR.out]; rfl, by first | exact hG5.1.2.2.2 | exact hG4.1.2.2.2⟩
      · have j20 : (C2 == 0) = false := by simp [x20]
        have j23 : (C2 == 3) = false := by simp [x23]
        have j24 : (C2 == 4) = false := by simp [x24]
        have HR : Hid (RN = NA) := by show _ = _; rw [HRN.out]; simp [adC, hNA, *]
        clear x20 x23 x24
        go_wp2_with fail
        go_region_held3 (fun W => (W.cell? ⟨w.heap.size, 0, none⟩ = some (.int .u8 (E : Int)) ∧ W.cell? ⟨w.heap.size, 1, none⟩ = some (.int .u8 (M : Int)) ∧ w.heap.size < W.heap.size ∧ Below w.heap.size w W) ∧ (W.cell? ⟨p, 0, none⟩ = some (.int .u64 (X1 : Int)) ∧ W.cell? ⟨p, 1, none⟩ = some (.bool N1) ∧ W.cell? ⟨p, 2, none⟩ = some (.int .i8 4) ∧ W.cell? ⟨p, 3, none⟩ = some (.bool G1) ∧ W.cell? ⟨p, 4, none⟩ = some (.slice a1 k1 c1) ∧ W.cell? ⟨p, 5, none⟩ = some (.slice a2 k2 c2) ∧ (∀ o, W.frozen? ⟨p, o, none⟩ = false) ∧ p < W.heap.size) ∧ (W.cell? ⟨q, 0, none⟩ = some (.int .u64 (X2 : Int)) ∧ W.cell? ⟨q, 1, none⟩ = some (.bool N2) ∧ W.cell? ⟨q, 2, none⟩ = some (.int .i8 C2) ∧ W.cell? ⟨q, 3, none⟩ = some (.bool G2) ∧ W.cell? ⟨q, 4, none⟩ = some (.slice a3 k3 c3) ∧ W.cell? ⟨q, 5, none⟩ = some (.slice a4 k4 c4) ∧ (∀ o, W.frozen? ⟨q, o, none⟩ = false) ∧ q < W.heap.size) ∧ Kp Wb W)
          ((repeat' (first | with_reducible assumption | with_reducible refine sq6_drew ?_)))
          ((first | (go_at_call 64; refine Calls.mono (HNA.out _) ?_; rintro _ w4 ⟨rfl, hb⟩; have hG4 := sq6_next (by with_reducible assumption) hb; clear hb) | (go_at_call 65; refine Calls.mono (HHE.out _) ?_; rintro _ w5 ⟨fl, rfl, hb⟩; have hG5 := sq6_next (by with_reducible assumption) hb; clear hb)))
        go_wp2_with fail
        go_ret2
        exact ⟨_, by rw [HR.out]; rfl, by first | exact hG5.1.2.2.2 | exact hG4.1.2.2.2⟩
    · rcases hc2 with rfl | rfl | rfl | ⟨x20, x23, x24⟩
      · have j10 : (C1 == 0) = false := by simp [x10]
        have j13 : (C1 == 3) = false := by simp [x13]
        have j14 : (C1 == 4) = false := by simp [x14]
        have HF1 := HF0.out (by exact x13) (by exact x14) (by decide) (by decide)
        have HR : Hid (RN = F) := by show _ = _; rw [HRN.out]; unfold adC; rw [if_neg (by omega), if_neg (by omega), if_neg (by omega), if_neg (by omega)]
        clear HRN HF0 hX1 hX2
        clear x10 x13 x14
        have HAD := hidden (addRat_ok G1 G2 a1 a2 a3 a4 k1 c1 k2 c2 k3 c3 k4 c4 2050 p1 q1 p2 q2 wc (HN1.out.kp hG.2.2.2) (HN2.out.kp hG.2.2.2) (HN3.out.kp hG.2.2.2) (HN4.out.kp hG.2.2.2) (by decide))
        obtain ⟨nn, hnn⟩ : ∃ nn, nn = adNum G1 G2 (p1 * q2) (p2 * q1) := ⟨_, rfl⟩
        obtain ⟨ng, hng⟩ : ∃ ng, ng = adNeg G1 G2 (p1 * q2) (p2 * q1) := ⟨_, rfl⟩
        rw [← hnn, ← hng] at HAD
        rw [← hnn, ← hng] at HF1
        have hqq : q1 * q2 ≠ 0 := Nat.mul_ne_zero hq1 hq2
        obtain ⟨dd, hdd⟩ : ∃ dd, dd = q1 * q2 := ⟨_, rfl⟩
        rw [← hdd] at HAD HF1 hqq
        clear hnn hng hdd HN1 HN2 HN3 HN4
        go_wp2_with fail
        refine Calls.mono HAD.out ?_
        rintro _ w5 ⟨b1, l1, e1, b2, l2, e2, rfl, hM1, hM2, hb⟩
        have hG5 := sq6_alloc (sq6_next hG hb) (.cells #[.bool ng, .slice b1 l1 e1, .slice b2 l2 e2] 48)
        have hR3 := bx3_made w5 (m := w5.heap.size) (.bool ng) (.slice b1 l1 e1) (.slice b2 l2 e2) 48 rfl
        have HM1 : Hid (NatIs (4 * 2050 + 1) (w5.alloc (.cells #[.bool ng, .slice b1 l1 e1, .slice b2 l2 e2] 48)) (.slice b1 l1 e1) nn) := hM1.kept ((Below.refl _ _).alloc (Nat.le_refl _) _)
        have HM2 : Hid (NatIs (4 * 2050 + 1) (w5.alloc (.cells #[.bool ng, .slice b1 l1 e1, .slice b2 l2 e2] 48)) (.slice b2 l2 e2) dd) := hM2.kept ((Below.refl _ _).alloc (Nat.le_refl _) _)
        have hne := hM1.none_eq
        clear hb hG HAD hM1 hM2
        by_cases hz : nn = 0
        · have hz2 : (nn == 0) = true := by simp [hz]
          rw [hz2] at hne
          rw [if_pos hz] at HF1
          clear hz hz2
          by_cases hn : N1 = N2
          · have HF2 : Hid (F = sgnd E M N1 0) := by show _ = _; rw [HF1, if_pos hn]
            clear HF1
            subst hn
            cases N1
            all_goals
              go_wp2_with fail
              refine Calls.mono (HZE.out _ _) ?_
              rintro _ w6 ⟨rfl, hb⟩
              have hG6 := sq6_next hG5 hb
              clear hb
              go_wp2_with fail
              go_ret2
              exact ⟨_, by rw [HR.out, HF2.out]; rfl, hG6.1.2.2.2⟩
          · have HF2 : Hid (F = sgnd E M MB 0) := by show _ = _; rw [HF1, if_neg hn]
            clear HF1
            cases N1 <;> cases N2 <;> simp at hn
            all_goals
              go_wp2_with fail
              refine Calls.mono (HZE.out _ _) ?_
              rintro _ w6 ⟨rfl, hb⟩
              have hG6 := sq6_next hG5 hb
              clear hb
              go_wp2_with fail
              go_ret2
              exact ⟨_, by rw [HR.out, HF2.out]; rfl, hG6.1.2.2.2⟩
        · have hz2 : (nn == 0) = false := by simp [hz]
          rw [hz2] at hne
          rw [if_neg hz] at HF1
          have HRX := hidden (roundFlags_ok E M HFO.out mo ng (4 * 2050 + 1) nn dd b1 b2 l1 e1 l2 e2 _ HM1.out HM2.out (by decide) hqq)
          have HF2 : Hid (F = rfN E M mo ng nn dd) := HF1
          clear HF1 hz hz2
          generalize rfN E M mo ng nn dd = ZN at *
          generalize rfF E M mo ng nn dd = ZF at *
          go_wp2_with fail
          refine Calls.mono HRX.out ?_
          rintro _ w6 ⟨rfl, hb⟩
          have hG6 := sq6_next hG5 hb
          clear hb
          go_wp2_with fail
          go_ret2
          exact ⟨_, by rw [HR.out, HF2.out]; rfl, hG6.1.2.2.2⟩
      · have j10 : (C1 == 0) = false := by simp [x10]
        have j13 : (C1 == 3) = false := by simp [x13]
        have j14 : (C1 == 4) = false := by simp [x14]
        have hX2b := hX2 rfl
        have HR : Hid (RN = X2) := by show _ = _; rw [HRN.out]; rw [hX2b]; simp [adC, x13, x14]
        clear x10 x13 x14
        clear hX2b hX1 hX2
        go_wp2_with fail
        go_ret2
        exact ⟨_, by rw [HR.out]; rfl, hG.1.2.2.2⟩
      · have j10 : (C1 == 0) = false := by simp [x10]
        have j13 : (C1 == 3) = false := by simp [x13]
        have j14 : (C1 == 4) = false := by simp [x14]
        have HR : Hid (RN = NA) := by show _ = _; rw [HRN.out]; simp [adC, hNA, *]
        clear x10 x13 x14
        go_wp2_with fail
        go_region_held3 (fun W => (W.cell? ⟨w.heap.size, 0, none⟩ = some (.int .u8 (E : Int)) ∧ W.cell? ⟨w.heap.size, 1, none⟩ = some (.int .u8 (M : Int)) ∧ w.heap.size < W.heap.size ∧ Below w.heap.size w W) ∧ (W.cell? ⟨p, 0, none⟩ = some (.int .u64 (X1 : Int)) ∧ W.cell? ⟨p, 1, none⟩ = some (.bool N1) ∧ W.cell? ⟨p, 2, none⟩ = some (.int .i8 C1) ∧ W.cell? ⟨p, 3, none⟩ = some (.bool G1) ∧ W.cell? ⟨p, 4, none⟩ = some (.slice a1 k1 c1) ∧ W.cell? ⟨p, 5, none⟩ = some (.slice a2 k2 c2) ∧ (∀ o, W.frozen? ⟨p, o, none⟩ = false) ∧ p < W.heap.size) ∧ (W.cell? ⟨q, 0, none⟩ = some (.int .u64 (X2 : Int)) ∧ W.cell? ⟨q, 1, none⟩ = some (.bool N2) ∧ W.cell? ⟨q, 2, none⟩ = some (.int .i8 4) ∧ W.cell? ⟨q, 3, none⟩ = some (.bool G2) ∧ W.cell? ⟨q, 4, none⟩ = some (.slice a3 k3 c3) ∧ W.cell? ⟨q, 5, none⟩ = some (.slice a4 k4 c4) ∧ (∀ o, W.frozen? ⟨q, o, none⟩ = false) ∧ q < W.heap.size) ∧ Kp Wb W)
          ((repeat' (first | with_reducible assumption | with_reducible refine sq6_drew ?_)))
          ((first | (go_at_call 64; refine Calls.mono (HNA.out _) ?_; rintro _ w4 ⟨rfl, hb⟩; have hG4 := sq6_next (by with_reducible assumption) hb; clear hb) | (go_at_call 65; refine Calls.mono (HHE.out _) ?_; rintro _ w5 ⟨fl, rfl, hb⟩; have hG5 := sq6_next (by with_reducible assumption) hb; clear hb)))
        go_wp2_with fail
        go_ret2
        exact ⟨_, by rw [HR.out]; rfl, by first | exact hG5.1.2.2.2 | exact hG4.1.2.2.2⟩
      · have j10 : (C1 == 0) = false := by simp [x10]
        have j13 : (C1 == 3) = false := by simp [x13]
        have j14 : (C1 == 4) = false := by simp [x14]
        have j20 : (C2 == 0) = false := by simp [x20]
        have j23 : (C2 == 3) = false := by simp [x23]
        have j24 : (C2 == 4) = false := by simp [x24]
        have HF1 := HF0.out (by exact x13) (by exact x14) (by exact x23) (by exact x24)
        have HR : Hid (RN = F) := by show _ = _; rw [HRN.out]; unfold adC; rw [if_neg (by omega), if_neg (by omega), if_neg (by omega), if_neg (by omega)]
        clear HRN HF0 hX1 hX2
        clear x10 x13 x14 x20 x23 x24
        have HAD := hidden (addRat_ok G1 G2 a1 a2 a3 a4 k1 c1 k2 c2 k3 c3 k4 c4 2050 p1 q1 p2 q2 wc (HN1.out.kp hG.2.2.2) (HN2.out.kp hG.2.2.2) (HN3.out.kp hG.2.2.2) (HN4.out.kp hG.2.2.2) (by decide))
        obtain ⟨nn, hnn⟩ : ∃ nn, nn = adNum G1 G2 (p1 * q2) (p2 * q1) := ⟨_, rfl⟩
        obtain ⟨ng, hng⟩ : ∃ ng, ng = adNeg G1 G2 (p1 * q2) (p2 * q1) := ⟨_, rfl⟩
        rw [← hnn, ← hng] at HAD
        rw [← hnn, ← hng] at HF1
        have hqq : q1 * q2 ≠ 0 := Nat.mul_ne_zero hq1 hq2
        obtain ⟨dd, hdd⟩ : ∃ dd, dd = q1 * q2 := ⟨_, rfl⟩
        rw [← hdd] at HAD HF1 hqq
        clear hnn hng hdd HN1 HN2 HN3 HN4
        go_wp2_with fail
        refine Calls.mono HAD.out ?_
        rintro _ w5 ⟨b1, l1, e1, b2, l2, e2, rfl, hM1, hM2, hb⟩
        have hG5 := sq6_alloc (sq6_next hG hb) (.cells #[.bool ng, .slice b1 l1 e1, .slice b2 l2 e2] 48)
        have hR3 := bx3_made w5 (m := w5.heap.size) (.bool ng) (.slice b1 l1 e1) (.slice b2 l2 e2) 48 rfl
        have HM1 : Hid (NatIs (4 * 2050 + 1) (w5.alloc (.cells #[.bool ng, .slice b1 l1 e1, .slice b2 l2 e2] 48)) (.slice b1 l1 e1) nn) := hM1.kept ((Below.refl _ _).alloc (Nat.le_refl _) _)
        have HM2 : Hid (NatIs (4 * 2050 + 1) (w5.alloc (.cells #[.bool ng, .slice b1 l1 e1, .slice b2 l2 e2] 48)) (.slice b2 l2 e2) dd) := hM2.kept ((Below.refl _ _).alloc (Nat.le_refl _) _)
        have hne := hM1.none_eq
        clear hb hG HAD hM1 hM2
        by_cases hz : nn = 0
        · have hz2 : (nn == 0) = true := by simp [hz]
          rw [hz2] at hne
          rw [if_pos hz] at HF1
          clear hz hz2
          by_cases hn : N1 = N2
          · have HF2 : Hid (F = sgnd E M N1 0) := by show _ = _; rw [HF1, if_pos hn]
            clear HF1
            subst hn
            cases N1
            all_goals
              go_wp2_with fail
              refine Calls.mono (HZE.out _ _) ?_
              rintro _ w6 ⟨rfl, hb⟩
              have hG6 := sq6_next hG5 hb
              clear hb
              go_wp2_with fail
              go_ret2
              exact ⟨_, by rw [HR.out, HF2.out]; rfl, hG6.1.2.2.2⟩
          · have HF2 : Hid (F = sgnd E M MB 0) := by show _ = _; rw [HF1, if_neg hn]
            clear HF1
            cases N1 <;> cases N2 <;> simp at hn
            all_goals
              go_wp2_with fail
              refine Calls.mono (HZE.out _ _) ?_
              rintro _ w6 ⟨rfl, hb⟩
              have hG6 := sq6_next hG5 hb
              clear hb
              go_wp2_with fail
              go_ret2
              exact ⟨_, by rw [HR.out, HF2.out]; rfl, hG6.1.2.2.2⟩
        · have hz2 : (nn == 0) = false := by simp [hz]
          rw [hz2] at hne
          rw [if_neg hz] at HF1
          have HRX := hidden (roundFlags_ok E M HFO.out mo ng (4 * 2050 + 1) nn dd b1 b2 l1 e1 l2 e2 _ HM1.out HM2.out (by decide) hqq)
          have HF2 : Hid (F = rfN E M mo ng nn dd) := HF1
          clear HF1 hz hz2
          generalize rfN E M mo ng nn dd = ZN at *
          generalize rfF E M mo ng nn dd = ZF at *
          go_wp2_with fail
          refine Calls.mono HRX.out ?_
          rintro _ w6 ⟨rfl, hb⟩
          have hG6 := sq6_next hG5 hb
          clear hb
          go_wp2_with fail
          go_ret2
          exact ⟨_, by rw [HR.out, HF2.out]; rfl, hG6.1.2.2.2⟩

end Go.Proofs.Ygcoaj
