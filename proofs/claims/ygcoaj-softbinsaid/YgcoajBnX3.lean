/-
  WALKS: exact.DivFlags (150).
-/
import Derived.Test.YgcoajBnS3
import Derived.Test.YgcoajBnX1
set_option linter.unusedVariables false
set_option linter.unusedSimpArgs false
namespace Go.Proofs.Ygcoaj
open Go.RowKit


set_option maxRecDepth 100000 in
set_option maxHeartbeats 8000000 in
theorem div2X (E M : Nat) (h : FOk E M) (mo a b F NA : Nat) (X1 X2 p1 q1 p2 q2 : Nat) (N1 N2 G1 G2 : Bool) (C1 C2 : Int) (hc1 : C1 = 0 ∨ C1 = 3 ∨ C1 = 4 ∨ (C1 ≠ 0 ∧ C1 ≠ 3 ∧ C1 ≠ 4)) (hc2 : C2 = 0 ∨ C2 = 3 ∨ C2 = 4 ∨ (C2 ≠ 0 ∧ C2 ≠ 3 ∧ C2 ≠ 4))
    (HA : Hid (∀ w, Calls Oajg.prog 63 #[.agg #[.int .u8 (E : Int), .int .u8 (M : Int)], .int .u64 (a : Int)] w fun e w' => ∃ a1 k1 c1 a2 k2 c2, e = .returned (.agg #[.int .u64 (X1 : Int), .bool N1, .int .i8 C1, .bool G1, .slice a1 k1 c1, .slice a2 k2 c2]) ∧ NatIs 2050 w' (.slice a1 k1 c1) p1 ∧ NatIs 2050 w' (.slice a2 k2 c2) q1 ∧ Below w.heap.size w w'))
    (HB : Hid (∀ w, Calls Oajg.prog 63 #[.agg #[.int .u8 (E : Int), .int .u8 (M : Int)], .int .u64 (b : Int)] w fun e w' => ∃ a1 k1 c1 a2 k2 c2, e = .returned (.agg #[.int .u64 (X2 : Int), .bool N2, .int .i8 C2, .bool G2, .slice a1 k1 c1, .slice a2 k2 c2]) ∧ NatIs 2050 w' (.slice a1 k1 c1) p2 ∧ NatIs 2050 w' (.slice a2 k2 c2) q2 ∧ Below w.heap.size w w'))
    (HHE : Hid (∀ w, Calls Oajg.prog 65 #[.agg #[.int .u8 (E : Int), .int .u8 (M : Int)], .int .u64 (a : Int), .int .u64 (b : Int)] w fun e w' => ∃ fl, e = .returned (.int .u8 fl) ∧ Below w.heap.size w w'))
    (hNA : nanN E M = NA) (hq1 : q1 ≠ 0) (hq2 : q2 ≠ 0)
    (hden : C2 ≠ 0 → C2 ≠ 3 → C2 ≠ 4 → p2 ≠ 0)
    (HF0 : Hid (C1 ≠ 3 → C1 ≠ 4 → C2 ≠ 3 → C2 ≠ 4 → F = rfN E M mo (N1 != N2) (p1 * q2) (q1 * p2)))
    (w : World) : Calls Oajg.prog 150 #[.agg #[.int .u8 (E : Int), .int .u8 (M : Int)], .int .u8 (mo : Int), .int .u64 (a : Int), .int .u64 (b : Int)] w fun e w' => ∃ fl, e = .returned (.tuple #[.int .u64 (dvC E M C1 C2 (N1 != N2) F : Nat), .int .u8 fl]) ∧ Below w.heap.size w w' := by
  have HO : Hid (∀ w, Calls Oajg.prog 17 #[.agg #[.int .u8 (E : Int), .int .u8 (M : Int)]] w fun e w' => e = .returned (.bool true) ∧ Below w.heap.size w w') := ok_yes h
  have HNA : Hid (∀ w, Calls Oajg.prog 64 #[.agg #[.int .u8 (E : Int), .int .u8 (M : Int)]] w fun e w' => e = .returned (.int .u64 (NA : Int)) ∧ Below w.heap.size w w') := by rw [← hNA]; exact nan_ok E M h
  have HIN : Hid (∀ n w, Calls Oajg.prog 84 #[.agg #[.int .u8 (E : Int), .int .u8 (M : Int)], .bool n] w fun e w' => e = .returned (.int .u64 (sgnd E M n (infN E M) : Nat)) ∧ Below w.heap.size w w') := fun n => inf_ok E M h n
  have HZE : Hid (∀ n w, Calls Oajg.prog 119 #[.agg #[.int .u8 (E : Int), .int .u8 (M : Int)], .bool n] w fun e w' => e = .returned (.int .u64 (sgnd E M n 0 : Nat)) ∧ Below w.heap.size w w') := fun n => zeroX_ok E M h n
  have HFO : Hid (FOk E M) := h
  obtain ⟨RN, HRN⟩ : ∃ RN, Hid (RN = dvC E M C1 C2 (N1 != N2) F) := ⟨_, rfl⟩
  rw [← HRN.out]
  have hS := sf_box w E M
  clear h
  obtain ⟨NN, hNN⟩ : ∃ NN, (N1 != N2) = NN := ⟨_, rfl⟩
  have kN2 : (!(N1 == N2)) = NN := hNN
  rw [hNN] at HF0 HRN
  go_enter Oajg.func150, Oajg.ntmps150
  go_wp2_with fail
  refine Calls.mono (HO.out _) ?_
  rintro _ w0 ⟨rfl, hq⟩
  replace hS := sf_next hS hq
  clear hq HO
  have hn0 := hS.2.2.1
  go_wp2_with fail
  have hlt2 : ∀ n : Nat, n < n + 1 + 1 := fun n => by omega
  go_cut [10, 11] (fun s7 s8 W => ∃ p q a1 k1 c1 a2 k2 c2 a3 k3 c3 a4 k4 c4, s7 = .pointer (some ⟨p, 0, none⟩) ∧ s8 = .pointer (some ⟨q, 0, none⟩) ∧ p ≠ q ∧ w.heap.size < p ∧ w.heap.size < q ∧
    (W.cell? ⟨p, 0, none⟩ = some (.int .u64 (X1 : Int)) ∧ W.cell? ⟨p, 1, none⟩ = some (.bool N1) ∧ W.cell? ⟨p, 2, none⟩ = some (.int .i8 C1) ∧ W.cell? ⟨p, 3, none⟩ = some (.bool G1) ∧ W.cell? ⟨p, 4, none⟩ = some (.slice a1 k1 c1) ∧ W.cell? ⟨p, 5, none⟩ = some (.slice a2 k2 c2) ∧ (∀ o, W.frozen? ⟨p, o, none⟩ = false) ∧ p < W.heap.size) ∧ (W.cell? ⟨q, 0, none⟩ = some (.int .u64 (X2 : Int)) ∧ W.cell? ⟨q, 1, none⟩ = some (.bool N2) ∧ W.cell? ⟨q, 2, none⟩ = some (.int .i8 C2) ∧ W.cell? ⟨q, 3, none⟩ = some (.bool G2) ∧ W.cell? ⟨q, 4, none⟩ = some (.slice a3 k3 c3) ∧ W.cell? ⟨q, 5, none⟩ = some (.slice a4 k4 c4) ∧ (∀ o, W.frozen? ⟨q, o, none⟩ = false) ∧ q < W.heap.size) ∧ (W.cell? ⟨w.heap.size, 0, none⟩ = some (.int .u8 (E : Int)) ∧ W.cell? ⟨w.heap.size, 1, none⟩ = some (.int .u8 (M : Int)) ∧ w.heap.size < W.heap.size ∧ Below w.heap.size w W) ∧
    (∃ Wb, NatIs 2050 Wb (.slice a1 k1 c1) p1 ∧ NatIs 2050 Wb (.slice a2 k2 c2) q1 ∧ NatIs 2050 Wb (.slice a3 k3 c3) p2 ∧ NatIs 2050 Wb (.slice a4 k4 c4) q2 ∧ Kp Wb W))
  case first =>
    go_region_held3 (fun W => W.cell? ⟨w.heap.size, 0, none⟩ = some (.int .u8 (E : Int)) ∧ W.cell? ⟨w.heap.size, 1, none⟩ = some (.int .u8 (M : Int)) ∧ w.heap.size < W.heap.size ∧ Below w.heap.size w W) ((repeat' (first | with_reducible assumption | with_reducible refine sf_drew ?_ | with_reducible refine sf_alloc ?_ _ | with_reducible refine sf_store ?_ ?_ | (simp only [World.size_alloc, World.size_drew, World.size_setCell]; omega) | omega))) ((go_at_call 63; first | ((with_reducible refine Calls.mono (HA.out _) ?_); rintro _ wa ⟨a1, k1, c1, a2, k2, c2, rfl, hN1, hN2, hb⟩; have hS1 := sf_next (by with_reducible assumption) hb; have hn1 := hS1.2.2.1; have hzn := hb.size; obtain ⟨hc, hf, hz⟩ := bfacts2 hb; (try simp only [World.size_alloc, World.size_drew] at hc hf hz hzn); (try have hk0 : w0.heap.size < wa.heap.size := hz _ (by omega)); (try have hk1 : w0.heap.size + 1 < wa.heap.size := hz _ (by omega)); (try have hk2 : w0.heap.size < wa.heap.size + 1 := by omega); (try have hk3 : w0.heap.size < wa.heap.size + 1 + 1 := by omega); (try have hne0 : w0.heap.size ≠ wa.heap.size := by omega); (try have hne1 : wa.heap.size ≠ w0.heap.size := by omega); have HN1 : Hid (NatIs 2050 wa (.slice a1 k1 c1) p1) := hN1; have HN2 : Hid (NatIs 2050 wa (.slice a2 k2 c2) q1) := hN2; clear hb hN1 hN2) | ((with_reducible refine Calls.mono (HB.out _) ?_); rintro _ wb ⟨a3, k3, c3, a4, k4, c4, rfl, hN3, hN4, hb⟩; have hS1 := sf_next (by with_reducible assumption) hb; have hn1 := hS1.2.2.1; have hzn := hb.size; obtain ⟨hc, hf, hz⟩ := bfacts2 hb; (try simp only [World.size_alloc, World.size_drew] at hc hf hz hzn); (try have hk0 : w0.heap.size < wb.heap.size := hz _ (by omega)); (try have hk1 : w0.heap.size + 1 < wb.heap.size := hz _ (by omega)); (try have hk2 : w0.heap.size < wb.heap.size + 1 := by omega); (try have hk3 : w0.heap.size < wb.heap.size + 1 + 1 := by omega); (try have hne0 : w0.heap.size ≠ wb.heap.size := by omega); (try have hne1 : wb.heap.size ≠ w0.heap.size := by omega); have HKK : Hid (Kp wa wb) := Kp.trans (by first | with_reducible exact Kp.refl _ | with_reducible exact (Kp.refl _).alloc _ | with_reducible exact ((Kp.refl _).alloc _).alloc _) (Kp.of hb); have HN3 : Hid (NatIs 2050 wb (.slice a3 k3 c3) p2) := hN3; have HN4 : Hid (NatIs 2050 wb (.slice a4 k4 c4) q2) := hN4; clear hb hN3 hN4)))
    all_goals go_wp2_with fail
    all_goals go_meet
    all_goals refine ⟨_, _, _, _, _, _, _, _, _, _, _, _, _, _, rfl, rfl, ?_, ?_, ?_, ⟨?_, ?_, ?_, ?_, ?_, ?_, ?_, ?_⟩, ⟨?_, ?_, ?_, ?_, ?_, ?_, ?_, ?_⟩, ?_, ⟨wb, HN1.out.kp HKK.out, HN2.out.kp HKK.out, HN3.out, HN4.out, ?_⟩⟩
    all_goals try (first
      | with_reducible assumption
      | omega
      | (simp only [World.size_alloc, World.size_drew, World.size_setCell]; omega)
      | (simp [*, go_sem]; done)
      | (intro o; simp [*, go_sem]; done))
    all_goals repeat' (first
      | with_reducible exact Kp.refl _
      | with_reducible refine Kp.alloc ?_ _
      | with_reducible refine Kp.drew ?_
      | with_reducible refine Kp.setCell (p := ⟨_, 0, none⟩) (u := .int .u64 0) ?_ (by simp [*, go_sem]; done) (not32_u64 _)
      | with_reducible refine Kp.setCell (p := ⟨_, 1, none⟩) (u := .bool false) ?_ (by simp [*, go_sem]; done) (not32_bool _)
      | with_reducible refine Kp.setCell (p := ⟨_, 2, none⟩) (u := .int .i8 0) ?_ (by simp [*, go_sem]; done) (not32_i8 _)
      | with_reducible refine Kp.setCell (p := ⟨_, 3, none⟩) (u := .bool false) ?_ (by simp [*, go_sem]; done) (not32_bool _)
      | with_reducible refine Kp.setCell (p := ⟨_, 4, none⟩) (u := .slice none 0 0) ?_ (by simp [*, go_sem]; done) (not32_slice _ _ _)
      | with_reducible refine Kp.setCell (p := ⟨_, 5, none⟩) (u := .slice none 0 0) ?_ (by simp [*, go_sem]; done) (not32_slice _ _ _))
  case rest =>
    obtain ⟨p, q, a1, k1, c1, a2, k2, c2, a3, k3, c3, a4, k4, c4, rfl, rfl, hpq, hp, hq, hP, hQ, hS2, Wb, n1, n2, n3, n4, hk⟩ := hcut
    have HN1 : Hid (NatIs 2050 Wb (.slice a1 k1 c1) p1) := n1
    have HN2 : Hid (NatIs 2050 Wb (.slice a2 k2 c2) q1) := n2
    have HN3 : Hid (NatIs 2050 Wb (.slice a3 k3 c3) p2) := n3
    have HN4 : Hid (NatIs 2050 Wb (.slice a4 k4 c4) q2) := n4
    have hG : (wc.cell? ⟨w.heap.size, 0, none⟩ = some (.int .u8 (E : Int)) ∧ wc.cell? ⟨w.heap.size, 1, none⟩ = some (.int .u8 (M : Int)) ∧ w.heap.size < wc.heap.size ∧ Below w.heap.size w wc) ∧ (wc.cell? ⟨p, 0, none⟩ = some (.int .u64 (X1 : Int)) ∧ wc.cell? ⟨p, 1, none⟩ = some (.bool N1) ∧ wc.cell? ⟨p, 2, none⟩ = some (.int .i8 C1) ∧ wc.cell? ⟨p, 3, none⟩ = some (.bool G1) ∧ wc.cell? ⟨p, 4, none⟩ = some (.slice a1 k1 c1) ∧ wc.cell? ⟨p, 5, none⟩ = some (.slice a2 k2 c2) ∧ (∀ o, wc.frozen? ⟨p, o, none⟩ = false) ∧ p < wc.heap.size) ∧ (wc.cell? ⟨q, 0, none⟩ = some (.int .u64 (X2 : Int)) ∧ wc.cell? ⟨q, 1, none⟩ = some (.bool N2) ∧ wc.cell? ⟨q, 2, none⟩ = some (.int .i8 C2) ∧ wc.cell? ⟨q, 3, none⟩ = some (.bool G2) ∧ wc.cell? ⟨q, 4, none⟩ = some (.slice a3 k3 c3) ∧ wc.cell? ⟨q, 5, none⟩ = some (.slice a4 k4 c4) ∧ (∀ o, wc.frozen? ⟨q, o, none⟩ = false) ∧ q < wc.heap.size) ∧ Kp Wb wc := ⟨hS2, hP, hQ, hk⟩
    clear n1 n2 n3 n4 hk hS hn0 hlt2 HA HB hP hQ hS2
    rcases hc1 with rfl | rfl | rfl | ⟨x10, x13, x14⟩
    · rcases hc2 with rfl | rfl | rfl | ⟨x20, x23, x24⟩
      · have HR : Hid (RN = NA) := by show _ = _; rw [HRN.out]; simp [dvC, hNA, *]
        go_wp2_with fail
        refine Calls.mono (HNA.out _) ?_
        rintro _ w4 ⟨rfl, hb⟩
        have hG4 := sq6_next hG hb
        clear hb
        go_wp2_with fail
        go_ret2
        exact ⟨_, by rw [HR.out]; rfl, hG4.1.2.2.2⟩
      · have HR : Hid (RN = sgnd E M NN 0) := by show _ = _; rw [HRN.out]; simp [dvC, *]
        go_wp2_with fail
        refine Calls.mono (HZE.out _ _) ?_
        rintro _ w4 ⟨rfl, hb⟩
        have hG4 := sq6_next hG hb
        clear hb
        go_wp2_with fail
        go_ret2
        exact ⟨_, by rw [HR.out]; rfl, hG4.1.2.2.2⟩
      · have HR : Hid (RN = NA) := by show _ = _; rw [HRN.out]; simp [dvC, hNA, *]
        go_wp2_with fail
        go_region_held3 (fun W => (W.cell? ⟨w.heap.size, 0, none⟩ = some (.int .u8 (E : Int)) ∧ W.cell? ⟨w.heap.size, 1, none⟩ = some (.int .u8 (M : Int)) ∧ w.heap.size < W.heap.size ∧ Below w.heap.size w W) ∧ (W.cell? ⟨p, 0, none⟩ = some (.int .u64 (X1 : Int)) ∧ W.cell? ⟨p, 1, none⟩ = some (.bool N1) ∧ W.cell? ⟨p, 2, none⟩ = some (.int .i8 0) ∧ W.cell? ⟨p, 3, none⟩ = some (.bool G1) ∧ W.cell? ⟨p, 4, none⟩ = some (.slice a1 k1 c1) ∧ W.cell? ⟨p, 5, none⟩ = some (.slice a2 k2 c2) ∧ (∀ o, W.frozen? ⟨p, o, none⟩ = false) ∧ p < W.heap.size) ∧ (W.cell? ⟨q, 0, none⟩ = some (.int .u64 (X2 : Int)) ∧ W.cell? ⟨q, 1, none⟩ = some (.bool N2) ∧ W.cell? ⟨q, 2, none⟩ = some (.int .i8 4) ∧ W.cell? ⟨q, 3, none⟩ = some (.bool G2) ∧ W.cell? ⟨q, 4, none⟩ = some (.slice a3 k3 c3) ∧ W.cell? ⟨q, 5, none⟩ = some (.slice a4 k4 c4) ∧ (∀ o, W.frozen? ⟨q, o, none⟩ = false) ∧ q < W.heap.size) ∧ Kp Wb W)
          ((repeat' (first | with_reducible assumption | with_reducible refine sq6_drew ?_)))
          ((first | (go_at_call 64; refine Calls.mono (HNA.out _) ?_; rintro _ w4 ⟨rfl, hb⟩; have hG4 := sq6_next (by with_reducible assumption) hb; clear hb) | (go_at_call 65; refine Calls.mono (HHE.out _) ?_; rintro _ w5 ⟨fl, rfl, hb⟩; have hG5 := sq6_next (by with_reducible assumption) hb; clear hb)))
        go_wp2_with fail
        go_ret2
        exact ⟨_, by rw [HR.out]; rfl, by first | exact hG5.1.2.2.2 | exact hG4.1.2.2.2⟩
      · have j20 : (C2 == 0) = false := by simp [x20]
        have j23 : (C2 == 3) = false := by simp [x23]
        have j24 : (C2 == 4) = false := by simp [x24]
        have HF1 := hidden (HF0.out (by decide) (by decide) (by exact x23) (by exact x24))
        have HR : Hid (RN = F) := by show _ = _; rw [HRN.out]; unfold dvC; rw [if_neg (by omega), if_neg (by omega), if_neg (by omega), if_neg (by omega), if_neg (by omega)]
        have hdd0 : q1 * p2 ≠ 0 := Nat.mul_ne_zero hq1 (hden x20 x23 x24)
        clear HRN HF0
        clear x20 x23 x24
        have HM1 : Hid (∀ W, ((W.cell? ⟨w.heap.size, 0, none⟩ = some (.int .u8 (E : Int)) ∧ W.cell? ⟨w.heap.size, 1, none⟩ = some (.int .u8 (M : Int)) ∧ w.heap.size < W.heap.size ∧ Below w.heap.size w W) ∧ (W.cell? ⟨p, 0, none⟩ = some (.int .u64 (X1 : Int)) ∧ W.cell? ⟨p, 1, none⟩ = some (.bool N1) ∧ W.cell? ⟨p, 2, none⟩ = some (.int .i8 0) ∧ W.cell? ⟨p, 3, none⟩ = some (.bool G1) ∧ W.cell? ⟨p, 4, none⟩ = some (.slice a1 k1 c1) ∧ W.cell? ⟨p, 5, none⟩ = some (.slice a2 k2 c2) ∧ (∀ o, W.frozen? ⟨p, o, none⟩ = false) ∧ p < W.heap.size) ∧ (W.cell? ⟨q, 0, none⟩ = some (.int .u64 (X2 : Int)) ∧ W.cell? ⟨q, 1, none⟩ = some (.bool N2) ∧ W.cell? ⟨q, 2, none⟩ = some (.int .i8 C2) ∧ W.cell? ⟨q, 3, none⟩ = some (.bool G2) ∧ W.cell? ⟨q, 4, none⟩ = some (.slice a3 k3 c3) ∧ W.cell? ⟨q, 5, none⟩ = some (.slice a4 k4 c4) ∧ (∀ o, W.frozen? ⟨q, o, none⟩ = false) ∧ q < W.heap.size) ∧ Kp Wb W) → Calls Oajg.prog 62 #[.slice a1 k1 c1, .slice a4 k4 c4] W fun e w' => ∃ ad k c, e = .returned (.slice ad k c) ∧ NatIs (2050 + 2050) w' (.slice ad k c) (p1 * q2) ∧ Below W.heap.size W w') := fun W hW => shaped (mul_any 2050 2050 _ _ _ _ W (HN1.out.kp hW.2.2.2) (HN4.out.kp hW.2.2.2) (by decide) (by decide))
        have HM2 : Hid (∀ W, ((W.cell? ⟨w.heap.size, 0, none⟩ = some (.int .u8 (E : Int)) ∧ W.cell? ⟨w.heap.size, 1, none⟩ = some (.int .u8 (M : Int)) ∧ w.heap.size < W.heap.size ∧ Below w.heap.size w W) ∧ (W.cell? ⟨p, 0, none⟩ = some (.int .u64 (X1 : Int)) ∧ W.cell? ⟨p, 1, none⟩ = some (.bool N1) ∧ W.cell? ⟨p, 2, none⟩ = some (.int .i8 0) ∧ W.cell? ⟨p, 3, none⟩ = some (.bool G1) ∧ W.cell? ⟨p, 4, none⟩ = some (.slice a1 k1 c1) ∧ W.cell? ⟨p, 5, none⟩ = some (.slice a2 k2 c2) ∧ (∀ o, W.frozen? ⟨p, o, none⟩ = false) ∧ p < W.heap.size) ∧ (W.cell? ⟨q, 0, none⟩ = some (.int .u64 (X2 : Int)) ∧ W.cell? ⟨q, 1, none⟩ = some (.bool N2) ∧ W.cell? ⟨q, 2, none⟩ = some (.int .i8 C2) ∧ W.cell? ⟨q, 3, none⟩ = some (.bool G2) ∧ W.cell? ⟨q, 4, none⟩ = some (.slice a3 k3 c3) ∧ W.cell? ⟨q, 5, none⟩ = some (.slice a4 k4 c4) ∧ (∀ o, W.frozen? ⟨q, o, none⟩ = false) ∧ q < W.heap.size) ∧ Kp Wb W) → Calls Oajg.prog 62 #[.slice a2 k2 c2, .slice a3 k3 c3] W fun e w' => ∃ ad k c, e = .returned (.slice ad k c) ∧ NatIs (2050 + 2050) w' (.slice ad k c) (q1 * p2) ∧ Below W.heap.size W w') := fun W hW => shaped (mul_any 2050 2050 _ _ _ _ W (HN2.out.kp hW.2.2.2) (HN3.out.kp hW.2.2.2) (by decide) (by decide))
        have HRX0 : Hid (∀ W ba la ea bb lb eb, NatIs (2050 + 2050) W (.slice ba la ea) (p1 * q2) → NatIs (2050 + 2050) W (.slice bb lb eb) (q1 * p2) → Calls Oajg.prog 67 #[.agg #[.int .u8 (E : Int), .int .u8 (M : Int)], .int .u8 (mo : Int), .agg #[.bool NN, .slice ba la ea, .slice bb lb eb]] W fun e w' => ∃ fl, e = .returned (.tuple #[.int .u64 (F : Nat), .int .u8 fl]) ∧ Below W.heap.size W w') := fun W ba la ea bb lb eb h1 h2 => Calls.mono (roundFlags_ok E M HFO.out mo NN (2050 + 2050) _ _ ba bb la ea lb eb W h1 h2 (by decide) hdd0) (by
          rintro e w' ⟨rfl, hb⟩
          rw [← HF1.out]
          exact ⟨_, rfl, hb⟩)
        generalize p1 * q2 = nn at *
        generalize q1 * p2 = dd at *
        clear HF1
        go_wp2_with fail
        go_region_held3 (fun W => (W.cell? ⟨w.heap.size, 0, none⟩ = some (.int .u8 (E : Int)) ∧ W.cell? ⟨w.heap.size, 1, none⟩ = some (.int .u8 (M : Int)) ∧ w.heap.size < W.heap.size ∧ Below w.heap.size w W) ∧ (W.cell? ⟨p, 0, none⟩ = some (.int .u64 (X1 : Int)) ∧ W.cell? ⟨p, 1, none⟩ = some (.bool N1) ∧ W.cell? ⟨p, 2, none⟩ = some (.int .i8 0) ∧ W.cell? ⟨p, 3, none⟩ = some (.bool G1) ∧ W.cell? ⟨p, 4, none⟩ = some (.slice a1 k1 c1) ∧ W.cell? ⟨p, 5, none⟩ = some (.slice a2 k2 c2) ∧ (∀ o, W.frozen? ⟨p, o, none⟩ = false) ∧ p < W.heap.size) ∧ (W.cell? ⟨q, 0, none⟩ = some (.int .u64 (X2 : Int)) ∧ W.cell? ⟨q, 1, none⟩ = some (.bool N2) ∧ W.cell? ⟨q, 2, none⟩ = some (.int .i8 C2) ∧ W.cell? ⟨q, 3, none⟩ = some (.bool G2) ∧ W.cell? ⟨q, 4, none⟩ = some (.slice a3 k3 c3) ∧ W.cell? ⟨q, 5, none⟩ = some (.slice a4 k4 c4) ∧ (∀ o, W.frozen? ⟨q, o, none⟩ = false) ∧ q < W.heap.size) ∧ Kp Wb W)
          ((repeat' (first | with_reducible assumption | with_reducible refine sq6_drew ?_)))
          ((first | (go_at_call 62; (with_reducible refine Calls.mono (HM1.out _ ?hh) ?_); (case hh => with_reducible assumption); rintro _ w4 ⟨ba, la, ea, rfl, hNa, hb⟩; have hG4 := sq6_next (by with_reducible assumption) hb; have HNa : Hid (NatIs (2050 + 2050) w4 (.slice ba la ea) nn) := hNa; clear hb hNa) | (go_at_call 62; (with_reducible refine Calls.mono (HM2.out _ ?hh) ?_); (case hh => with_reducible assumption); rintro _ w5 ⟨bb, lb, eb, rfl, hNb, hb⟩; have hG5 := sq6_next (by with_reducible assumption) hb; have HNc : Hid (NatIs (2050 + 2050) w5 (.slice ba la ea) nn) := HNa.out.kept hb; have HNb : Hid (NatIs (2050 + 2050) w5 (.slice bb lb eb) dd) := hNb; clear hb hNb) | (go_at_call 67; (with_reducible refine Calls.mono (HRX0.out _ _ _ _ _ _ _ HNc.out HNb.out) ?_); rintro _ w6 ⟨fl, rfl, hb⟩; have hG6 := sq6_next (by with_reducible assumption) hb; clear hb)))
        go_wp2_with fail
        go_ret2
        exact ⟨_, by rw [HR.out]; rfl, hG6.1.2.2.2⟩
    · rcases hc2 with rfl | rfl | rfl | ⟨x20, x23, x24⟩
      · have HR : Hid (RN = sgnd E M NN (infN E M)) := by show _ = _; rw [HRN.out]; simp [dvC, *]
        go_wp2_with fail
        refine Calls.mono (HIN.out _ _) ?_
        rintro _ w4 ⟨rfl, hb⟩
        have hG4 := sq6_next hG hb
        clear hb
        go_wp2_with fail
        go_ret2
        exact ⟨_, by rw [HR.out]; rfl, hG4.1.2.2.2⟩
      · have HR : Hid (RN = NA) := by show _ = _; rw [HRN.out]; simp [dvC, hNA, *]
        go_wp2_with fail
        refine Calls.mono (HNA.out _) ?_
        rintro _ w4 ⟨rfl, hb⟩
        have hG4 := sq6_next hG hb
        clear hb
        go_wp2_with fail
        go_ret2
        exact ⟨_, by rw [HR.out]; rfl, hG4.1.2.2.2⟩
      · have HR : Hid (RN = NA) := by show _ = _; rw [HRN.out]; simp [dvC, hNA, *]
        go_wp2_with fail
        go_region_held3 (fun W => (W.cell? ⟨w.heap.size, 0, none⟩ = some (.int .u8 (E : Int)) ∧ W.cell? ⟨w.heap.size, 1, none⟩ = some (.int .u8 (M : Int)) ∧ w.heap.size < W.heap.size ∧ Below w.heap.size w W) ∧ (W.cell? ⟨p, 0, none⟩ = some (.int .u64 (X1 : Int)) ∧ W.cell? ⟨p, 1, none⟩ = some (.bool N1) ∧ W.cell? ⟨p, 2, none⟩ = some (.int .i8 3) ∧ W.cell? ⟨p, 3, none⟩ = some (.bool G1) ∧ W.cell? ⟨p, 4, none⟩ = some (.slice a1 k1 c1) ∧ W.cell? ⟨p, 5, none⟩ = some (.slice a2 k2 c2) ∧ (∀ o, W.frozen? ⟨p, o, none⟩ = false) ∧ p < W.heap.size) ∧ (W.cell? ⟨q, 0, none⟩ = some (.int .u64 (X2 : Int)) ∧ W.cell? ⟨q, 1, none⟩ = some (.bool N2) ∧ W.cell? ⟨q, 2, none⟩ = some (.int .i8 4) ∧ W.cell? ⟨q, 3, none⟩ = some (.bool G2) ∧ W.cell? ⟨q, 4, none⟩ = some (.slice a3 k3 c3) ∧ W.cell? ⟨q, 5, none⟩ = some (.slice a4 k4 c4) ∧ (∀ o, W.frozen? ⟨q, o, none⟩ = false) ∧ q < W.heap.size) ∧ Kp Wb W)
          ((repeat' (first | with_reducible assumption | with_reducible refine sq6_drew ?_)))
          ((first | (go_at_call 64; refine Calls.mono (HNA.out _) ?_; rintro _ w4 ⟨rfl, hb⟩; have hG4 := sq6_next (by with_reducible assumption) hb; clear hb) | (go_at_call 65; refine Calls.mono (HHE.out _) ?_; rintro _ w5 ⟨fl, rfl, hb⟩; have hG5 := sq6_next (by with_reducible assumption) hb; clear hb)))
        go_wp2_with fail
        go_ret2
        exact ⟨_, by rw [HR.out]; rfl, by first | exact hG5.1.2.2.2 | exact hG4.1.2.2.2⟩
      · have j20 : (C2 == 0) = false := by simp [x20]
        have j23 : (C2 == 3) = false := by simp [x23]
        have j24 : (C2 == 4) = false := by simp [x24]
        have HR : Hid (RN = sgnd E M NN (infN E M)) := by show _ = _; rw [HRN.out]; simp [dvC, *]
        clear x20 x23 x24
        go_wp2_with fail
        refine Calls.mono (HIN.out _ _) ?_
        rintro _ w4 ⟨rfl, hb⟩
        have hG4 := sq6_next hG hb
        clear hb
        go_wp2_with fail
        go_ret2
        exact ⟨_, by rw [HR.out]; rfl, hG4.1.2.2.2⟩
    · rcases hc2 with rfl | rfl | rfl | ⟨x20, x23, x24⟩
      · have HR : Hid (RN = NA) := by show _ = _; rw [HRN.out]; simp [dvC, hNA, *]
        go_wp2_with fail
        go_region_held3 (fun W => (W.cell? ⟨w.heap.size, 0, none⟩ = some (.int .u8 (E : Int)) ∧ W.cell? ⟨w.heap.size, 1, none⟩ = some (.int .u8 (M : Int)) ∧ w.heap.size < W.heap.size ∧ Below w.heap.size w W) ∧ (W.cell? ⟨p, 0, none⟩ = some (.int .u64 (X1 : Int)) ∧ W.cell? ⟨p, 1, none⟩ = some (.bool N1) ∧ W.cell? ⟨p, 2, none⟩ = some (.int .i8 4) ∧ W.cell? ⟨p, 3, none⟩ = some (.bool G1) ∧ W.cell? ⟨p, 4, none⟩ = some (.slice a1 k1 c1) ∧ W.cell? ⟨p, 5, none⟩ = some (.slice a2 k2 c2) ∧ (∀ o, W.frozen? ⟨p, o, none⟩ = false) ∧ p < W.heap.size) ∧ (W.cell? ⟨q, 0, none⟩ = some (.int .u64 (X2 : Int)) ∧ W.cell? ⟨q, 1, none⟩ = some (.bool N2) ∧ W.cell? ⟨q, 2, none⟩ = some (.int .i8 0) ∧ W.cell? ⟨q, 3, none⟩ = some (.bool G2) ∧ W.cell? ⟨q, 4, none⟩ = some (.slice a3 k3 c3) ∧ W.cell? ⟨q, 5, none⟩ = some (.slice a4 k4 c4) ∧ (∀ o, W.frozen? ⟨q, o, none⟩ = false) ∧ q < W.heap.size) ∧ Kp Wb W)
          ((repeat' (first | with_reducible assumption | with_reducible refine sq6_drew ?_)))
          ((first | (go_at_call 64; refine Calls.mono (HNA.out _) ?_; rintro _ w4 ⟨rfl, hb⟩; have hG4 := sq6_next (by with_reducible assumption) hb; clear hb) | (go_at_call 65; refine Calls.mono (HHE.out _) ?_; rintro _ w5 ⟨fl, rfl, hb⟩; have hG5 := sq6_next (by with_reducible assumption) hb; clear hb)))
        go_wp2_with fail
        go_ret2
        exact ⟨_, by rw [HR.out]; rfl, by first | exact hG5.1.2.2.2 | exact hG4.1.2.2.2⟩
      · have HR : Hid (RN = NA) := by show _ = _; rw [HRN.out]; simp [dvC, hNA, *]
        go_wp2_with fail
        go_region_held3 (fun W => (W.cell? ⟨w.heap.size, 0, none⟩ = some (.int .u8 (E : Int)) ∧ W.cell? ⟨w.heap.size, 1, none⟩ = some (.int .u8 (M : Int)) ∧ w.heap.size < W.heap.size ∧ Below w.heap.size w W) ∧ (W.cell? ⟨p, 0, none⟩ = some (.int .u64 (X1 : Int)) ∧ W.cell? ⟨p, 1, none⟩ = some (.bool N1) ∧ W.cell? ⟨p, 2, none⟩ = some (.int .i8 4) ∧ W.cell? ⟨p, 3, none⟩ = some (.bool G1) ∧ W.cell? ⟨p, 4, none⟩ = some (.slice a1 k1 c1) ∧ W.cell? ⟨p, 5, none⟩ = some (.slice a2 k2 c2) ∧ (∀ o, W.frozen? ⟨p, o, none⟩ = false) ∧ p < W.heap.size) ∧ (W.cell? ⟨q, 0, none⟩ = some (.int .u64 (X2 : Int)) ∧ W.cell? ⟨q, 1, none⟩ = some (.bool N2) ∧ W.cell? ⟨q, 2, none⟩ = some (.int .i8 3) ∧ W.cell? ⟨q, 3, none⟩ = some (.bool G2) ∧ W.cell? ⟨q, 4, none⟩ = some (.slice a3 k3 c3) ∧ W.cell? ⟨q, 5, none⟩ = some (.slice a4 k4 c4) ∧ (∀ o, W.frozen? ⟨q, o, none⟩ = false) ∧ q < W.heap.size) ∧ Kp Wb W)
          ((repeat' (first | with_reducible assumption | with_reducible refine sq6_drew ?_)))
          ((first | (go_at_call 64; refine Calls.mono (HNA.out _) ?_; rintro _ w4 ⟨rfl, hb⟩; have hG4 := sq6_next (by with_reducible assumption) hb; clear hb) | (go_at_call 65; refine Calls.mono (HHE.out _) ?_; rintro _ w5 ⟨fl, rfl, hb⟩; have hG5 := sq6_next (by with_reducible assumption) hb; clear hb)))
        go_wp2_with fail
        go_ret2
        exact ⟨_, by rw [HR.out]; rfl, by first | exact hG5.1.2.2.2 | exact hG4.1.2.2.2⟩
      · have HR : Hid (RN = NA) := by show _ = _; rw [HRN.out]; simp [dvC, hNA, *]
        go_wp2_with fail
        go_region_held3 (fun W => (W.cell? ⟨w.heap.size, 0, none⟩ = some (.int .u8 (E : Int)) ∧ W.cell? ⟨w.heap.size, 1, none⟩ = some (.int .u8 (M : Int)) ∧ w.heap.size < W.heap.size ∧ Below w.heap.size w W) ∧ (W.cell? ⟨p, 0, none⟩ = some (.int .u64 (X1 : Int)) ∧ W.cell? ⟨p, 1, none⟩ = some (.bool N1) ∧ W.cell? ⟨p, 2, none⟩ = some (.int .i8 4) ∧ W.cell? ⟨p, 3, none⟩ = some (.bool G1) ∧ W.cell? ⟨p, 4, none⟩ = some (.slice a1 k1 c1) ∧ W.cell? ⟨p, 5, none⟩ = some (.slice a2 k2 c2) ∧ (∀ o, W.frozen? ⟨p, o, none⟩ = false) ∧ p < W.heap.size) ∧ (W.cell? ⟨q, 0, none⟩ = some (.int .u64 (X2 : Int)) ∧ W.cell? ⟨q, 1, none⟩ = some (.bool N2) ∧ W.cell? ⟨q, 2, none⟩ = some (.int .i8 4) ∧ W.cell? ⟨q, 3, none⟩ = some (.bool G2) ∧ W.cell? ⟨q, 4, none⟩ = some (.slice a3 k3 c3) ∧ W.cell? ⟨q, 5, none⟩ = some (.slice a4 k4 c4) ∧ (∀ o, W.frozen? ⟨q, o, none⟩ = false) ∧ q < W.heap.size) ∧ Kp Wb W)
          ((repeat' (first | with_reducible assumption | with_reducible refine sq6_drew ?_)))
          ((first | (go_at_call 64; refine Calls.mono (HNA.out _) ?_; rintro _ w4 ⟨rfl, hb⟩; have hG4 := sq6_next (by with_reducible assumption) hb; clear hb) | (go_at_call 65; refine Calls.mono (HHE.out _) ?_; rintro _ w5 ⟨fl, rfl, hb⟩; have hG5 := sq6_next (by with_reducible assumption) hb; clear hb)))
        go_wp2_with fail
        go_ret2
        exact ⟨_, by rw [HR.out]; rfl, by first | exact hG5.1.2.2.2 | exact hG4.1.2.2.2⟩
      · have j20 : (C2 == 0) = false := by simp [x20]
        have j23 : (C2 == 3) = false := by simp [x23]
        have j24 : (C2 == 4) = false := by simp [x24]
        have HR : Hid (RN = NA) := by show _ = _; rw [HRN.out]; simp [dvC, hNA, *]
        clear x20 x23 x24
        go_wp2_with fail
        go_region_held3 (fun W => (W.cell? ⟨w.heap.size, 0, none⟩ = some (.int .u8 (E : Int)) ∧ W.cell? ⟨w.heap.size, 1, none⟩ = some (.int .u8 (M : Int)) ∧ w.heap.size < W.heap.size ∧ Below w.heap.size w W) ∧ (W.cell? ⟨p, 0, none⟩ = some (.int .u64 (X1 : Int)) ∧ W.cell? ⟨p, 1, none⟩ = some (.bool N1) ∧ W.cell? ⟨p, 2, none⟩ = some (.int .i8 4) ∧ W.cell? ⟨p, 3, none⟩ = some (.bool G1) ∧ W.cell? ⟨p, 4, none⟩ = some (.slice a1 k1 c1) ∧ W.cell? ⟨p, 5, none⟩ = some (.slice a2 k2 c2) ∧ (∀ o, W.frozen? ⟨p, o, none⟩ = false) ∧ p < W.heap.size) ∧ (W.cell? ⟨q, 0, none⟩ = some (.int .u64 (X2 : Int)) ∧ W.cell? ⟨q, 1, none⟩ = some (.bool N2) ∧ W.cell? ⟨q, 2, none⟩ = some (.int .i8 C2) ∧ W.cell? ⟨q, 3, none⟩ = some (.bool G2) ∧ W.cell? ⟨q, 4, none⟩ = some (.slice a3 k3 c3) ∧ W.cell? ⟨q, 5, none⟩ = some (.slice a4 k4 c4) ∧ (∀ o, W.frozen? ⟨q, o, none⟩ = false) ∧ q < W.heap.size) ∧ Kp Wb W)
          ((repeat' (first | with_reducible assumption | with_reducible refine sq6_drew ?_)))
          ((first | (go_at_call 64; refine Calls.mono (HNA.out _) ?_; rintro _ w4 ⟨rfl, hb⟩; have hG4 := sq6_next (by with_reducible assumption) hb; clear hb) | (go_at_call 65; refine Calls.mono (HHE.out _) ?_; rintro _ w5 ⟨fl, rfl, hb⟩; have hG5 := sq6_next (by with_reducible assumption) hb; clear hb)))
        go_wp2_with fail
        go_ret2
        exact ⟨_, by rw [HR.out]; rfl, by first | exact hG5.1.2.2.2 | exact hG4.1.2.2.2⟩
    · rcases hc2 with rfl | rfl | rfl | ⟨x20, x23, x24⟩
      · have j10 : (C1 == 0) = false := by simp [x10]
        have j13 : (C1 == 3) = false := by simp [x13]
        have j14 : (C1 == 4) = false := by simp [x14]
        have HR : Hid (RN = sgnd E M NN (infN E M)) := by show _ = _; rw [HRN.out]; simp [dvC, *]
        clear x10 x13 x14
        go_wp2_with fail
        refine Calls.mono (HIN.out _ _) ?_
        rintro _ w4 ⟨rfl, hb⟩
        have hG4 := sq6_next hG hb
        clear hb
        go_wp2_with fail
        go_ret2
        exact ⟨_, by rw [HR.out]; rfl, hG4.1.2.2.2⟩
      · have j10 : (C1 == 0) = false := by simp [x10]
        have j13 : (C1 == 3) = false := by simp [x13]
        have j14 : (C1 == 4) = false := by simp [x14]
        have HR : Hid (RN = sgnd E M NN 0) := by show _ = _; rw [HRN.out]; simp [dvC, *]
        clear x10 x13 x14
        go_wp2_with fail
        refine Calls.mono (HZE.out _ _) ?_
        rintro _ w4 ⟨rfl, hb⟩
        have hG4 := sq6_next hG hb
        clear hb
        go_wp2_with fail
        go_ret2
        exact ⟨_, by rw [HR.out]; rfl, hG4.1.2.2.2⟩
      · have j10 : (C1 == 0) = false := by simp [x10]
        have j13 : (C1 == 3) = false := by simp [x13]
        have j14 : (C1 == 4) = false := by simp [x14]
        have HR : Hid (RN = NA) := by show _ = _; rw [HRN.out]; simp [dvC, hNA, *]
        clear x10 x13 x14
        go_wp2_with fail
        go_region_held3 (fun W => (W.cell? ⟨w.heap.size, 0, none⟩ = some (.int .u8 (E : Int)) ∧ W.cell? ⟨w.heap.size, 1, none⟩ = some (.int .u8 (M : Int)) ∧ w.heap.size < W.heap.size ∧ Below w.heap.size w W) ∧ (W.cell? ⟨p, 0, none⟩ = some (.int .u64 (X1 : Int)) ∧ W.cell? ⟨p, 1, none⟩ = some (.bool N1) ∧ W.cell? ⟨p, 2, none⟩ = some (.int .i8 C1) ∧ W.cell? ⟨p, 3, none⟩ = some (.bool G1) ∧ W.cell? ⟨p, 4, none⟩ = some (.slice a1 k1 c1) ∧ W.cell? ⟨p, 5, none⟩ = some (.slice a2 k2 c2) ∧ (∀ o, W.frozen? ⟨p, o, none⟩ = false) ∧ p < W.heap.size) ∧ (W.cell? ⟨q, 0, none⟩ = some (.int .u64 (X2 : Int)) ∧ W.cell? ⟨q, 1, none⟩ = some (.bool N2) ∧ W.cell? ⟨q, 2, none⟩ = some (.int .i8 4) ∧ W.cell? ⟨q, 3, none⟩ = some (.bool G2) ∧ W.cell? ⟨q, 4, none⟩ = some (.slice a3 k3 c3) ∧ W.cell? ⟨q, 5, none⟩ = some (.slice a4 k4 c4) ∧ (∀ o, W.frozen? ⟨q, o, none⟩ = false) ∧ q < W.heap.size) ∧ Kp Wb W)
          ((repeat' (first | with_reducible assumption | with_reducible refine sq6_drew ?_)))
          ((first | (go_at_call 64; refine Calls.mono (HNA.out _) ?_; rintro _ w4 ⟨rfl, hb⟩; have hG4 := sq6_next (by with_reducible assumption) hb; clear hb) | (go_at_call 65; refine Calls.mono (HHE.out _) ?_; rintro _ w5 ⟨fl, rfl, hb⟩; have hG5 := sq6_next (by with_reducible assumption) hb; clear hb)))
        go_wp2_with fail
        go_ret2
        exact ⟨_, by rw [HR.out]; rfl, by first | exact hG5.1.2.2.2 | exact hG4.1.2.2.2⟩
      · have j10 : (C1 == 0) = false := by simp [x10]
        have j13 : (C1 == 3) = false := by simp [x13]
        have j14 : (C1 == 4) = false := by simp [x14]
        have j20 : (C2 == 0) = false := by simp [x20]
        have j23 : (C2 == 3) = false := by simp [x23]
        have j24 : (C2 == 4) = false := by simp [x24]
        have HF1 := hidden (HF0.out (by exact x13) (by exact x14) (by exact x23) (by exact x24))
        have HR : Hid (RN = F) := by show _ = _; rw [HRN.out]; unfold dvC; rw [if_neg (by omega), if_neg (by omega), if_neg (by omega), if_neg (by omega), if_neg (by omega)]
        have hdd0 : q1 * p2 ≠ 0 := Nat.mul_ne_zero hq1 (hden x20 x23 x24)
        clear HRN HF0
        clear x10 x13 x14 x20 x23 x24
        have HM1 : Hid (∀ W, ((W.cell? ⟨w.heap.size, 0, none⟩ = some (.int .u8 (E : Int)) ∧ W.cell? ⟨w.heap.size, 1, none⟩ = some (.int .u8 (M : Int)) ∧ w.heap.size < W.heap.size ∧ Below w.heap.size w W) ∧ (W.cell? ⟨p, 0, none⟩ = some (.int .u64 (X1 : Int)) ∧ W.cell? ⟨p, 1, none⟩ = some (.bool N1) ∧ W.cell? ⟨p, 2, none⟩ = some (.int .i8 C1) ∧ W.cell? ⟨p, 3, none⟩ = some (.bool G1) ∧ W.cell? ⟨p, 4, none⟩ = some (.slice a1 k1 c1) ∧ W.cell? ⟨p, 5, none⟩ = some (.slice a2 k2 c2) ∧ (∀ o, W.frozen? ⟨p, o, none⟩ = false) ∧ p < W.heap.size) ∧ (W.cell? ⟨q, 0, none⟩ = some (.int .u64 (X2 : Int)) ∧ W.cell? ⟨q, 1, none⟩ = some (.bool N2) ∧ W.cell? ⟨q, 2, none⟩ = some (.int .i8 C2) ∧ W.cell? ⟨q, 3, none⟩ = some (.bool G2) ∧ W.cell? ⟨q, 4, none⟩ = some (.slice a3 k3 c3) ∧ W.cell? ⟨q, 5, none⟩ = some (.slice a4 k4 c4) ∧ (∀ o, W.frozen? ⟨q, o, none⟩ = false) ∧ q < W.heap.size) ∧ Kp Wb W) → Calls Oajg.prog 62 #[.slice a1 k1 c1, .slice a4 k4 c4] W fun e w' => ∃ ad k c, e = .returned (.slice ad k c) ∧ NatIs (2050 + 2050) w' (.slice ad k c) (p1 * q2) ∧ Below W.heap.size W w') := fun W hW => shaped (mul_any 2050 2050 _ _ _ _ W (HN1.out.kp hW.2.2.2) (HN4.out.kp hW.2.2.2) (by decide) (by decide))
        have HM2 : Hid (∀ W, ((W.cell? ⟨w.heap.size, 0, none⟩ = some (.int .u8 (E : Int)) ∧ W.cell? ⟨w.heap.size, 1, none⟩ = some (.int .u8 (M : Int)) ∧ w.heap.size < W.heap.size ∧ Below w.heap.size w W) ∧ (W.cell? ⟨p, 0, none⟩ = some (.int .u64 (X1 : Int)) ∧ W.cell? ⟨p, 1, none⟩ = some (.bool N1) ∧ W.cell? ⟨p, 2, none⟩ = some (.int .i8 C1) ∧ W.cell? ⟨p, 3, none⟩ = some (.bool G1) ∧ W.cell? ⟨p, 4, none⟩ = some (.slice a1 k1 c1) ∧ W.cell? ⟨p, 5, none⟩ = some (.slice a2 k2 c2) ∧ (∀ o, W.frozen? ⟨p, o, none⟩ = false) ∧ p < W.heap.size) ∧ (W.cell? ⟨q, 0, none⟩ = some (.int .u64 (X2 : Int)) ∧ W.cell? ⟨q, 1, none⟩ = some (.bool N2) ∧ W.cell? ⟨q, 2, none⟩ = some (.int .i8 C2) ∧ W.cell? ⟨q, 3, none⟩ = some (.bool G2) ∧ W.cell? ⟨q, 4, none⟩ = some (.slice a3 k3 c3) ∧ W.cell? ⟨q, 5, none⟩ = some (.slice a4 k4 c4) ∧ (∀ o, W.frozen? ⟨q, o, none⟩ = false) ∧ q < W.heap.size) ∧ Kp Wb W) → Calls Oajg.prog 62 #[.slice a2 k2 c2, .slice a3 k3 c3] W fun e w' => ∃ ad k c, e = .returned (.slice ad k c) ∧ NatIs (2050 + 2050) w' (.slice ad k c) (q1 * p2) ∧ Below W.heap.size W w') := fun W hW => shaped (mul_any 2050 2050 _ _ _ _ W (HN2.out.kp hW.2.2.2) (HN3.out.kp hW.2.2.2) (by decide) (by decide))
        have HRX0 : Hid (∀ W ba la ea bb lb eb, NatIs (2050 + 2050) W (.slice ba la ea) (p1 * q2) → NatIs (2050 + 2050) W (.slice bb lb eb) (q1 * p2) → Calls Oajg.prog 67 #[.agg #[.int .u8 (E : Int), .int .u8 (M : Int)], .int .u8 (mo : Int), .agg #[.bool NN, .slice ba la ea, .slice bb lb eb]] W fun e w' => ∃ fl, e = .returned (.tuple #[.int .u64 (F : Nat), .int .u8 fl]) ∧ Below W.heap.size W w') := fun W ba la ea bb lb eb h1 h2 => Calls.mono (roundFlags_ok E M HFO.out mo NN (2050 + 2050) _ _ ba bb la ea lb eb W h1 h2 (by decide) hdd0) (by
          rintro e w' ⟨rfl, hb⟩
          rw [← HF1.out]
          exact ⟨_, rfl, hb⟩)
        generalize p1 * q2 = nn at *
        generalize q1 * p2 = dd at *
        clear HF1
        go_wp2_with fail
        go_region_held3 (fun W => (W.cell? ⟨w.heap.size, 0, none⟩ = some (.int .u8 (E : Int)) ∧ W.cell? ⟨w.heap.size, 1, none⟩ = some (.int .u8 (M : Int)) ∧ w.heap.size < W.heap.size ∧ Below w.heap.size w W) ∧ (W.cell? ⟨p, 0, none⟩ = some (.int .u64 (X1 : Int)) ∧ W.cell? ⟨p, 1, none⟩ = some (.bool N1) ∧ W.cell? ⟨p, 2, none⟩ = some (.int .i8 C1) ∧ W.cell? ⟨p, 3, none⟩ = some (.bool G1) ∧ W.cell? ⟨p, 4, none⟩ = some (.slice a1 k1 c1) ∧ W.cell? ⟨p, 5, none⟩ = some (.slice a2 k2 c2) ∧ (∀ o, W.frozen? ⟨p, o, none⟩ = false) ∧ p < W.heap.size) ∧ (W.cell? ⟨q, 0, none⟩ = some (.int .u64 (X2 : Int)) ∧ W.cell? ⟨q, 1, none⟩ = some (.bool N2) ∧ W.cell? ⟨q, 2, none⟩ = some (.int .i8 C2) ∧ W.cell? ⟨q, 3, none⟩ = some (.bool G2) ∧ W.cell? ⟨q, 4, none⟩ = some (.slice a3 k3 c3) ∧ W.cell? ⟨q, 5, none⟩ = some (.slice a4 k4 c4) ∧ (∀ o, W.frozen? ⟨q, o, none⟩ = false) ∧ q < W.heap.size) ∧ Kp Wb W)
          ((repeat' (first | with_reducible assumption | with_reducible refine sq6_drew ?_)))
          ((first | (go_at_call 62; (with_reducible refine Calls.mono (HM1.out _ ?hh) ?_); (case hh => with_reducible assumption); rintro _ w4 ⟨ba, la, ea, rfl, hNa, hb⟩; have hG4 := sq6_next (by with_reducible assumption) hb; have HNa : Hid (NatIs (2050 + 2050) w4 (.slice ba la ea) nn) := hNa; clear hb hNa) | (go_at_call 62; (with_reducible refine Calls.mono (HM2.out _ ?hh) ?_); (case hh => with_reducible assumption); rintro _ w5 ⟨bb, lb, eb, rfl, hNb, hb⟩; have hG5 := sq6_next (by with_reducible assumption) hb; have HNc : Hid (NatIs (2050 + 2050) w5 (.slice ba la ea) nn) := HNa.out.kept hb; have HNb : Hid (NatIs (2050 + 2050) w5 (.slice bb lb eb) dd) := hNb; clear hb hNb) | (go_at_call 67; (with_reducible refine Calls.mono (HRX0.out _ _ _ _ _ _ _ HNc.out HNb.out) ?_); rintro _ w6 ⟨fl, rfl, hb⟩; have hG6 := sq6_next (by with_reducible assumption) hb; clear hb)))
        go_wp2_with fail
        go_ret2
        exact ⟨_, by rw [HR.out]; rfl, hG6.1.2.2.2⟩

end Go.Proofs.Ygcoaj
