/-
  WALKS: soft.MulFlags (145).
-/
import Derived.Test.YgcoajBnS1
set_option linter.unusedVariables false
set_option linter.unusedSimpArgs false
namespace Go.Proofs.Ygcoaj
open Go.RowKit


/-- the product by classes -/
def mlC (E M : Nat) (C1 C2 : Int) (NN : Bool) (F : Nat) : Nat :=
  if C1 = 4 ∨ C2 = 4 then nanN E M else if (C1 = 3 ∧ C2 = 0) ∨ (C1 = 0 ∧ C2 = 3) then nanN E M else if C1 = 3 ∨ C2 = 3 then sgnd E M NN (infN E M) else F

set_option maxRecDepth 100000 in
set_option maxHeartbeats 8000000 in
theorem mul2S (E M mo a b F NA : Nat) (N1 N2 : Bool) (C1 C2 V1 V2 : Int) (R1 R2 : Nat) (hc1 : C1 = 0 ∨ C1 = 3 ∨ C1 = 4 ∨ (C1 ≠ 0 ∧ C1 ≠ 3 ∧ C1 ≠ 4)) (hc2 : C2 = 0 ∨ C2 = 3 ∨ C2 = 4 ∨ (C2 ≠ 0 ∧ C2 ≠ 3 ∧ C2 ≠ 4))
    (HO : Hid (∀ w, Calls Oajg.prog 17 #[.agg #[.int .u8 (E : Int), .int .u8 (M : Int)]] w fun e w' => e = .returned (.bool true) ∧ Below w.heap.size w w'))
    (HA : Hid (∀ w, Calls Oajg.prog 74 #[.agg #[.int .u8 (E : Int), .int .u8 (M : Int)], .int .u64 (a : Int)] w fun e w' => e = .returned (.agg #[.bool N1, .int .i8 C1, .int .i16 V1, .int .u64 (R1 : Int)]) ∧ Below w.heap.size w w'))
    (HB : Hid (∀ w, Calls Oajg.prog 74 #[.agg #[.int .u8 (E : Int), .int .u8 (M : Int)], .int .u64 (b : Int)] w fun e w' => e = .returned (.agg #[.bool N2, .int .i8 C2, .int .i16 V2, .int .u64 (R2 : Int)]) ∧ Below w.heap.size w w'))
    (HNA : Hid (∀ w, Calls Oajg.prog 64 #[.agg #[.int .u8 (E : Int), .int .u8 (M : Int)]] w fun e w' => e = .returned (.int .u64 (NA : Int)) ∧ Below w.heap.size w w'))
    (HHE : Hid (∀ w, Calls Oajg.prog 83 #[.agg #[.int .u8 (E : Int), .int .u8 (M : Int)], .int .u64 (a : Int), .int .u64 (b : Int)] w fun e w' => ∃ fl, e = .returned (.int .u8 fl) ∧ Below w.heap.size w w'))
    (HIN : Hid (∀ n w, Calls Oajg.prog 84 #[.agg #[.int .u8 (E : Int), .int .u8 (M : Int)], .bool n] w fun e w' => e = .returned (.int .u64 (sgnd E M n (infN E M) : Nat)) ∧ Below w.heap.size w w'))
    (hNA : nanN E M = NA)
    (HZE : Hid (∀ n w, Calls Oajg.prog 132 #[.agg #[.int .u8 (E : Int), .int .u8 (M : Int)], .bool n] w fun e w' => e = .returned (.int .u64 (sgnd E M n 0 : Nat)) ∧ Below w.heap.size w w'))
    (PH PL J : Nat) (X : Int) (hv1 : -1200 ≤ V1 ∧ V1 ≤ 2048) (hv2 : -1200 ≤ V2 ∧ V2 ≤ 2048)
    (HZF : Hid (C1 = 0 ∨ C2 = 0 → C1 ≠ 3 → C1 ≠ 4 → C2 ≠ 3 → C2 ≠ 4 → F = sgnd E M (N1 != N2) 0))
    (HMU : Hid (∀ w, Calls Oajg.prog 184 #[.int .u64 (R1 : Int), .int .u64 (R2 : Int)] w fun e w' => e = .returned (.agg #[.int .u64 (PH : Int), .int .u64 (PL : Int)]) ∧ Below w.heap.size w w'))
    (HJM : Hid (C1 ≠ 0 → C1 ≠ 3 → C1 ≠ 4 → C2 ≠ 0 → C2 ≠ 3 → C2 ≠ 4 → ∀ w, Calls Oajg.prog 183 #[.agg #[.int .u64 (PH : Int), .int .u64 (PL : Int)], .int .i16 (V1 + V2)] w fun e w' => e = .returned (.tuple #[.int .u64 (J : Int), .int .i16 X]) ∧ Below w.heap.size w w'))
    (HRP : Hid (C1 ≠ 0 → C1 ≠ 3 → C1 ≠ 4 → C2 ≠ 0 → C2 ≠ 3 → C2 ≠ 4 → ∀ w, Calls Oajg.prog 85 #[.agg #[.int .u8 (E : Int), .int .u8 (M : Int)], .int .u8 (mo : Int), .bool (N1 != N2), .int .i16 X, .int .u64 (J : Int)] w fun e w' => ∃ fl, e = .returned (.tuple #[.int .u64 (F : Nat), .int .u8 fl]) ∧ Below w.heap.size w w'))
    (w : World) : Calls Oajg.prog 145 #[.agg #[.int .u8 (E : Int), .int .u8 (M : Int)], .int .u8 (mo : Int), .int .u64 (a : Int), .int .u64 (b : Int)] w fun e w' => ∃ fl, e = .returned (.tuple #[.int .u64 (mlC E M C1 C2 (N1 != N2) F : Nat), .int .u8 fl]) ∧ Below w.heap.size w w' := by
  obtain ⟨RN, HRN⟩ : ∃ RN, Hid (RN = mlC E M C1 C2 (N1 != N2) F) := ⟨_, rfl⟩
  rw [← HRN.out]
  have hS := sf_box w E M
  obtain ⟨NN, hNN⟩ : ∃ NN, (N1 != N2) = NN := ⟨_, rfl⟩
  have kN2 : (!(N1 == N2)) = NN := hNN
  rw [hNN] at HZF HRP HRN
  obtain ⟨hv11, hv12⟩ := hv1
  obtain ⟨hv21, hv22⟩ := hv2
  obtain ⟨VS, hVS⟩ : ∃ VS : Int, VS = V1 + V2 := ⟨_, rfl⟩
  have kV1 : V1 + V2 = VS := hVS.symm
  have kV2 : IntKind.i16.wrap (V1 + V2) = VS := by rw [kV1, i16_wrap]; omega
  have kV3 : IntKind.i16.wrap VS = VS := by rw [i16_wrap]; omega
  rw [← hVS] at HJM
  clear hVS
  go_enter Oajg.func145, Oajg.ntmps145
  go_wp2_with fail
  refine Calls.mono (HO.out _) ?_
  rintro _ w0 ⟨rfl, hq⟩
  replace hS := sf_next hS hq
  clear hq
  have hn0 := hS.2.2.1
  go_wp2_with fail
  have hlt2 : ∀ n : Nat, n < n + 1 + 1 := fun n => by omega
  go_cut [10, 11] (fun s7 s8 W => ∃ p q : Nat, s7 = .pointer (some ⟨p, 0, none⟩) ∧ s8 = .pointer (some ⟨q, 0, none⟩) ∧ p ≠ q ∧ w.heap.size < p ∧ w.heap.size < q ∧
    (W.cell? ⟨p, 0, none⟩ = some (.bool N1) ∧ W.cell? ⟨p, 1, none⟩ = some (.int .i8 C1) ∧ W.cell? ⟨p, 2, none⟩ = some (.int .i16 V1) ∧ W.cell? ⟨p, 3, none⟩ = some (.int .u64 (R1 : Int)) ∧ (∀ o, W.frozen? ⟨p, o, none⟩ = false) ∧ p < W.heap.size) ∧ (W.cell? ⟨q, 0, none⟩ = some (.bool N2) ∧ W.cell? ⟨q, 1, none⟩ = some (.int .i8 C2) ∧ W.cell? ⟨q, 2, none⟩ = some (.int .i16 V2) ∧ W.cell? ⟨q, 3, none⟩ = some (.int .u64 (R2 : Int)) ∧ (∀ o, W.frozen? ⟨q, o, none⟩ = false) ∧ q < W.heap.size) ∧ (W.cell? ⟨w.heap.size, 0, none⟩ = some (.int .u8 (E : Int)) ∧ W.cell? ⟨w.heap.size, 1, none⟩ = some (.int .u8 (M : Int)) ∧ w.heap.size < W.heap.size ∧ Below w.heap.size w W))
  case first =>
    go_region_held3 (fun W => W.cell? ⟨w.heap.size, 0, none⟩ = some (.int .u8 (E : Int)) ∧ W.cell? ⟨w.heap.size, 1, none⟩ = some (.int .u8 (M : Int)) ∧ w.heap.size < W.heap.size ∧ Below w.heap.size w W) ((repeat' (first | with_reducible assumption | with_reducible refine sf_drew ?_ | with_reducible refine sf_alloc ?_ _ | with_reducible refine sf_store ?_ ?_ | (simp only [World.size_alloc, World.size_drew, World.size_setCell]; omega) | omega))) ((go_at_call 74; (first | with_reducible refine Calls.mono (HA.out _) ?_ | with_reducible refine Calls.mono (HB.out _) ?_); rintro _ w1 ⟨rfl, hb⟩; have hS1 := sf_next (by with_reducible assumption) hb; have hn1 := hS1.2.2.1; have hzn := hb.size; obtain ⟨hc, hf, hz⟩ := bfacts2 hb; (try simp only [World.size_alloc, World.size_drew] at hc hf hz hzn); (try have hk0 : w0.heap.size < w1.heap.size := hz _ (by omega)); (try have hk1 : w0.heap.size + 1 < w1.heap.size := hz _ (by omega)); (try have hk2 : w0.heap.size < w1.heap.size + 1 := by omega); (try have hk3 : w0.heap.size < w1.heap.size + 1 + 1 := by omega); (try have hne0 : w0.heap.size ≠ w1.heap.size := by omega); (try have hne1 : w1.heap.size ≠ w0.heap.size := by omega); clear hb))
    all_goals go_wp2_with fail
    all_goals go_meet
    all_goals refine ⟨_, _, rfl, rfl, ?_, ?_, ?_, ⟨?_, ?_, ?_, ?_, ?_, ?_⟩, ⟨?_, ?_, ?_, ?_, ?_, ?_⟩, ?_⟩
    all_goals first
      | with_reducible assumption
      | omega
      | (simp only [World.size_alloc, World.size_drew, World.size_setCell]; omega)
      | (simp [*, go_sem]; done)
      | (intro o; simp [*, go_sem]; done)
  case rest =>
    obtain ⟨p, q, rfl, rfl, hpq, hp, hq, hP, hQ, hS2⟩ := hcut
    have hG : (wc.cell? ⟨w.heap.size, 0, none⟩ = some (.int .u8 (E : Int)) ∧ wc.cell? ⟨w.heap.size, 1, none⟩ = some (.int .u8 (M : Int)) ∧ w.heap.size < wc.heap.size ∧ Below w.heap.size w wc) ∧ (wc.cell? ⟨p, 0, none⟩ = some (.bool N1) ∧ wc.cell? ⟨p, 1, none⟩ = some (.int .i8 C1) ∧ wc.cell? ⟨p, 2, none⟩ = some (.int .i16 V1) ∧ wc.cell? ⟨p, 3, none⟩ = some (.int .u64 (R1 : Int)) ∧ (∀ o, wc.frozen? ⟨p, o, none⟩ = false) ∧ p < wc.heap.size) ∧ (wc.cell? ⟨q, 0, none⟩ = some (.bool N2) ∧ wc.cell? ⟨q, 1, none⟩ = some (.int .i8 C2) ∧ wc.cell? ⟨q, 2, none⟩ = some (.int .i16 V2) ∧ wc.cell? ⟨q, 3, none⟩ = some (.int .u64 (R2 : Int)) ∧ (∀ o, wc.frozen? ⟨q, o, none⟩ = false) ∧ q < wc.heap.size) := ⟨hS2, hP, hQ⟩
    clear hS hn0 HA HB HO hlt2 hP hQ hS2
    rcases hc1 with rfl | rfl | rfl | ⟨x10, x13, x14⟩
    · rcases hc2 with rfl | rfl | rfl | ⟨x20, x23, x24⟩
      · have hF0 : F = sgnd E M NN 0 := HZF.out (by first | exact Or.inl rfl | exact Or.inr rfl) (by decide) (by decide) (by decide) (by decide)
        have HR : Hid (RN = sgnd E M NN 0) := by show _ = _; rw [HRN.out]; simp [mlC, *]
        clear hF0
        go_wp2_with fail
        refine Calls.mono (HZE.out _ _) ?_
        rintro _ w4 ⟨rfl, hb⟩
        have hG4 := se_next hG hb
        clear hb
        go_wp2_with fail
        go_ret2
        exact ⟨_, by rw [HR.out]; rfl, hG4.1.2.2.2⟩
      · have HR : Hid (RN = NA) := by show _ = _; rw [HRN.out]; simp [mlC, hNA, *]
        go_wp2_with fail
        refine Calls.mono (HNA.out _) ?_
        rintro _ w4 ⟨rfl, hb⟩
        have hG4 := se_next hG hb
        clear hb
        go_wp2_with fail
        go_ret2
        exact ⟨_, by rw [HR.out]; rfl, hG4.1.2.2.2⟩
      · have HR : Hid (RN = NA) := by show _ = _; rw [HRN.out]; simp [mlC, hNA, *]
        go_wp2_with fail
        go_region_held3 (fun W => (W.cell? ⟨w.heap.size, 0, none⟩ = some (.int .u8 (E : Int)) ∧ W.cell? ⟨w.heap.size, 1, none⟩ = some (.int .u8 (M : Int)) ∧ w.heap.size < W.heap.size ∧ Below w.heap.size w W) ∧ (W.cell? ⟨p, 0, none⟩ = some (.bool N1) ∧ W.cell? ⟨p, 1, none⟩ = some (.int .i8 0) ∧ W.cell? ⟨p, 2, none⟩ = some (.int .i16 V1) ∧ W.cell? ⟨p, 3, none⟩ = some (.int .u64 (R1 : Int)) ∧ (∀ o, W.frozen? ⟨p, o, none⟩ = false) ∧ p < W.heap.size) ∧ (W.cell? ⟨q, 0, none⟩ = some (.bool N2) ∧ W.cell? ⟨q, 1, none⟩ = some (.int .i8 4) ∧ W.cell? ⟨q, 2, none⟩ = some (.int .i16 V2) ∧ W.cell? ⟨q, 3, none⟩ = some (.int .u64 (R2 : Int)) ∧ (∀ o, W.frozen? ⟨q, o, none⟩ = false) ∧ q < W.heap.size))
          ((repeat' (first | with_reducible assumption | with_reducible refine se_drew ?_)))
          ((first | (go_at_call 64; refine Calls.mono (HNA.out _) ?_; rintro _ w4 ⟨rfl, hb⟩; have hG4 := se_next (by with_reducible assumption) hb; clear hb) | (go_at_call 83; refine Calls.mono (HHE.out _) ?_; rintro _ w5 ⟨fl, rfl, hb⟩; have hG5 := se_next (by with_reducible assumption) hb; clear hb)))
        go_wp2_with fail
        go_ret2
        exact ⟨_, by rw [HR.out]; rfl, by first | exact hG5.1.2.2.2 | exact hG4.1.2.2.2⟩
      · have j20 : (C2 == 0) = false := by simp [x20]
        have j23 : (C2 == 3) = false := by simp [x23]
        have j24 : (C2 == 4) = false := by simp [x24]
        have hF0 : F = sgnd E M NN 0 := HZF.out (by first | exact Or.inl rfl | exact Or.inr rfl) (by decide) (by decide) (by exact x23) (by exact x24)
        have HR : Hid (RN = sgnd E M NN 0) := by show _ = _; rw [HRN.out]; simp [mlC, *]
        clear x20 x23 x24
        clear hF0
        go_wp2_with fail
        refine Calls.mono (HZE.out _ _) ?_
        rintro _ w4 ⟨rfl, hb⟩
        have hG4 := se_next hG hb
        clear hb
        go_wp2_with fail
        go_ret2
        exact ⟨_, by rw [HR.out]; rfl, hG4.1.2.2.2⟩
    · rcases hc2 with rfl | rfl | rfl | ⟨x20, x23, x24⟩
      · have HR : Hid (RN = NA) := by show _ = _; rw [HRN.out]; simp [mlC, hNA, *]
        go_wp2_with fail
        refine Calls.mono (HNA.out _) ?_
        rintro _ w4 ⟨rfl, hb⟩
        have hG4 := se_next hG hb
        clear hb
        go_wp2_with fail
        go_ret2
        exact ⟨_, by rw [HR.out]; rfl, hG4.1.2.2.2⟩
      · have HR : Hid (RN = sgnd E M NN (infN E M)) := by show _ = _; rw [HRN.out]; simp [mlC, *]
        go_wp2_with fail
        refine Calls.mono (HIN.out _ _) ?_
        rintro _ w4 ⟨rfl, hb⟩
        have hG4 := se_next hG hb
        clear hb
        go_wp2_with fail
        go_ret2
        exact ⟨_, by rw [HR.out]; rfl, hG4.1.2.2.2⟩
      · have HR : Hid (RN = NA) := by show _ = _; rw [HRN.out]; simp [mlC, hNA, *]
        go_wp2_with fail
        go_region_held3 (fun W => (W.cell? ⟨w.heap.size, 0, none⟩ = some (.int .u8 (E : Int)) ∧ W.cell? ⟨w.heap.size, 1, none⟩ = some (.int .u8 (M : Int)) ∧ w.heap.size < W.heap.size ∧ Below w.heap.size w W) ∧ (W.cell? ⟨p, 0, none⟩ = some (.bool N1) ∧ W.cell? ⟨p, 1, none⟩ = some (.int .i8 3) ∧ W.cell? ⟨p, 2, none⟩ = some (.int .i16 V1) ∧ W.cell? ⟨p, 3, none⟩ = some (.int .u64 (R1 : Int)) ∧ (∀ o, W.frozen? ⟨p, o, none⟩ = false) ∧ p < W.heap.size) ∧ (W.cell? ⟨q, 0, none⟩ = some (.bool N2) ∧ W.cell? ⟨q, 1, none⟩ = some (.int .i8 4) ∧ W.cell? ⟨q, 2, none⟩ = some (.int .i16 V2) ∧ W.cell? ⟨q, 3, none⟩ = some (.int .u64 (R2 : Int)) ∧ (∀ o, W.frozen? ⟨q, o, none⟩ = false) ∧ q < W.heap.size))
          ((repeat' (first | with_reducible assumption | with_reducible refine se_drew ?_)))
          ((first | (go_at_call 64; refine Calls.mono (HNA.out _) ?_; rintro _ w4 ⟨rfl, hb⟩; have hG4 := se_next (by with_reducible assumption) hb; clear hb) | (go_at_call 83; refine Calls.mono (HHE.out _) ?_; rintro _ w5 ⟨fl, rfl, hb⟩; have hG5 := se_next (by with_reducible assumption) hb; clear hb)))
        go_wp2_with fail
        go_ret2
        exact ⟨_, by rw [HR.out]; rfl, by first | exact hG5.1.2.2.2 | exact hG4.1.2.2.2⟩
      · have j20 : (C2 == 0) = false := by simp [x20]
        have j23 : (C2 == 3) = false := by simp [x23]
        have j24 : (C2 == 4) = false := by simp [x24]
        have HR : Hid (RN = sgnd E M NN (infN E M)) := by show _ = _; rw [HRN.out]; simp [mlC, *]
        clear x20 x23 x24
        go_wp2_with fail
        refine Calls.mono (HIN.out _ _) ?_
        rintro _ w4 ⟨rfl, hb⟩
        have hG4 := se_next hG hb
        clear hb
        go_wp2_with fail
        go_ret2
        exact ⟨_, by rw [HR.out]; rfl, hG4.1.2.2.2⟩
    · rcases hc2 with rfl | rfl | rfl | ⟨x20, x23, x24⟩
      · have HR : Hid (RN = NA) := by show _ = _; rw [HRN.out]; simp [mlC, hNA, *]
        go_wp2_with fail
        go_region_held3 (fun W => (W.cell? ⟨w.heap.size, 0, none⟩ = some (.int .u8 (E : Int)) ∧ W.cell? ⟨w.heap.size, 1, none⟩ = some (.int .u8 (M : Int)) ∧ w.heap.size < W.heap.size ∧ Below w.heap.size w W) ∧ (W.cell? ⟨p, 0, none⟩ = some (.bool N1) ∧ W.cell? ⟨p, 1, none⟩ = some (.int .i8 4) ∧ W.cell? ⟨p, 2, none⟩ = some (.int .i16 V1) ∧ W.cell? ⟨p, 3, none⟩ = some (.int .u64 (R1 : Int)) ∧ (∀ o, W.frozen? ⟨p, o, none⟩ = false) ∧ p < W.heap.size) ∧ (W.cell? ⟨q, 0, none⟩ = some (.bool N2) ∧ W.cell? ⟨q, 1, none⟩ = some (.int .i8 0) ∧ W.cell? ⟨q, 2, none⟩ = some (.int .i16 V2) ∧ W.cell? ⟨q, 3, none⟩ = some (.int .u64 (R2 : Int)) ∧ (∀ o, W.frozen? ⟨q, o, none⟩ = false) ∧ q < W.heap.size))
          ((repeat' (first | with_reducible assumption | with_reducible refine se_drew ?_)))
          ((first | (go_at_call 64; refine Calls.mono (HNA.out _) ?_; rintro _ w4 ⟨rfl, hb⟩; have hG4 := se_next (by with_reducible assumption) hb; clear hb) | (go_at_call 83; refine Calls.mono (HHE.out _) ?_; rintro _ w5 ⟨fl, rfl, hb⟩; have hG5 := se_next (by with_reducible assumption) hb; clear hb)))
        go_wp2_with fail
        go_ret2
        exact ⟨_, by rw [HR.out]; rfl, by first | exact hG5.1.2.2.2 | exact hG4.1.2.2.2⟩
      · have HR : Hid (RN = NA) := by show _ = _; rw [HRN.out]; simp [mlC, hNA, *]
        go_wp2_with fail
        go_region_held3 (fun W => (W.cell? ⟨w.heap.size, 0, none⟩ = some (.int .u8 (E : Int)) ∧ W.cell? ⟨w.heap.size, 1, none⟩ = some (.int .u8 (M : Int)) ∧ w.heap.size < W.heap.size ∧ Below w.heap.size w W) ∧ (W.cell? ⟨p, 0, none⟩ = some (.bool N1) ∧ W.cell? ⟨p, 1, none⟩ = some (.int .i8 4) ∧ W.cell? ⟨p, 2, none⟩ = some (.int .i16 V1) ∧ W.cell? ⟨p, 3, none⟩ = some (.int .u64 (R1 : Int)) ∧ (∀ o, W.frozen? ⟨p, o, none⟩ = false) ∧ p < W.heap.size) ∧ (W.cell? ⟨q, 0, none⟩ = some (.bool N2) ∧ W.cell? ⟨q, 1, none⟩ = some (.int .i8 3) ∧ W.cell? ⟨q, 2, none⟩ = some (.int .i16 V2) ∧ W.cell? ⟨q, 3, none⟩ = some (.int .u64 (R2 : Int)) ∧ (∀ o, W.frozen? ⟨q, o, none⟩ = false) ∧ q < W.heap.size))
          ((repeat' (first | with_reducible assumption | with_reducible refine se_drew ?_)))
          ((first | (go_at_call 64; refine Calls.mono (HNA.out _) ?_; rintro _ w4 ⟨rfl, hb⟩; have hG4 := se_next (by with_reducible assumption) hb; clear hb) | (go_at_call 83; refine Calls.mono (HHE.out _) ?_; rintro _ w5 ⟨fl, rfl, hb⟩; have hG5 := se_next (by with_reducible assumption) hb; clear hb)))
        go_wp2_with fail
        go_ret2
        exact ⟨_, by rw [HR.out]; rfl, by first | exact hG5.1.2.2.2 | exact hG4.1.2.2.2⟩
      · have HR : Hid (RN = NA) := by show _ = _; rw [HRN.out]; simp [mlC, hNA, *]
        go_wp2_with fail
        go_region_held3 (fun W => (W.cell? ⟨w.heap.size, 0, none⟩ = some (.int .u8 (E : Int)) ∧ W.cell? ⟨w.heap.size, 1, none⟩ = some (.int .u8 (M : Int)) ∧ w.heap.size < W.heap.size ∧ Below w.heap.size w W) ∧ (W.cell? ⟨p, 0, none⟩ = some (.bool N1) ∧ W.cell? ⟨p, 1, none⟩ = some (.int .i8 4) ∧ W.cell? ⟨p, 2, none⟩ = some (.int .i16 V1) ∧ W.cell? ⟨p, 3, none⟩ = some (.int .u64 (R1 : Int)) ∧ (∀ o, W.frozen? ⟨p, o, none⟩ = false) ∧ p < W.heap.size) ∧ (W.cell? ⟨q, 0, none⟩ = some (.bool N2) ∧ W.cell? ⟨q, 1, none⟩ = some (.int .i8 4) ∧ W.cell? ⟨q, 2, none⟩ = some (.int .i16 V2) ∧ W.cell? ⟨q, 3, none⟩ = some (.int .u64 (R2 : Int)) ∧ (∀ o, W.frozen? ⟨q, o, none⟩ = false) ∧ q < W.heap.size))
          ((repeat' (first | with_reducible assumption | with_reducible refine se_drew ?_)))
          ((first | (go_at_call 64; refine Calls.mono (HNA.out _) ?_; rintro _ w4 ⟨rfl, hb⟩; have hG4 := se_next (by with_reducible assumption) hb; clear hb) | (go_at_call 83; refine Calls.mono (HHE.out _) ?_; rintro _ w5 ⟨fl, rfl, hb⟩; have hG5 := se_next (by with_reducible assumption) hb; clear hb)))
        go_wp2_with fail
        go_ret2
        exact ⟨_, by rw [HR.out]; rfl, by first | exact hG5.1.2.2.2 | exact hG4.1.2.2.2⟩
      · have j20 : (C2 == 0) = false := by simp [x20]
        have j23 : (C2 == 3) = false := by simp [x23]
        have j24 : (C2 == 4) = false := by simp [x24]
        have HR : Hid (RN = NA) := by show _ = _; rw [HRN.out]; simp [mlC, hNA, *]
        clear x20 x23 x24
        go_wp2_with fail
        go_region_held3 (fun W => (W.cell? ⟨w.heap.size, 0, none⟩ = some (.int .u8 (E : Int)) ∧ W.cell? ⟨w.heap.size, 1, none⟩ = some (.int .u8 (M : Int)) ∧ w.heap.size < W.heap.size ∧ Below w.heap.size w W) ∧ (W.cell? ⟨p, 0, none⟩ = some (.bool N1) ∧ W.cell? ⟨p, 1, none⟩ = some (.int .i8 4) ∧ W.cell? ⟨p, 2, none⟩ = some (.int .i16 V1) ∧ W.cell? ⟨p, 3, none⟩ = some (.int .u64 (R1 : Int)) ∧ (∀ o, W.frozen? ⟨p, o, none⟩ = false) ∧ p < W.heap.size) ∧ (W.cell? ⟨q, 0, none⟩ = some (.bool N2) ∧ W.cell? ⟨q, 1, none⟩ = some (.int .i8 C2) ∧ W.cell? ⟨q, 2, none⟩ = some (.int .i16 V2) ∧ W.cell? ⟨q, 3, none⟩ = some (.int .u64 (R2 : Int)) ∧ (∀ o, W.frozen? ⟨q, o, none⟩ = false) ∧ q < W.heap.size))
          ((repeat' (first | with_reducible assumption | with_reducible refine se_drew ?_)))
          ((first | (go_at_call 64; refine Calls.mono (HNA.out _) ?_; rintro _ w4 ⟨rfl, hb⟩; have hG4 := se_next (by with_reducible assumption) hb; clear hb) | (go_at_call 83; refine Calls.mono (HHE.out _) ?_; rintro _ w5 ⟨fl, rfl, hb⟩; have hG5 := se_next (by with_reducible assumption) hb; clear hb)))
        go_wp2_with fail
        go_ret2
        exact ⟨_, by rw [HR.out]; rfl, by first | exact hG5.1.2.2.2 | exact hG4.1.2.2.2⟩
    · rcases hc2 with rfl | rfl | rfl | ⟨x20, x23, x24⟩
      · have j10 : (C1 == 0) = false := by simp [x10]
        have j13 : (C1 == 3) = false := by simp [x13]
        have j14 : (C1 == 4) = false := by simp [x14]
        have hF0 : F = sgnd E M NN 0 := HZF.out (by first | exact Or.inl rfl | exact Or.inr rfl) (by exact x13) (by exact x14) (by decide) (by decide)
        have HR : Hid (RN = sgnd E M NN 0) := by show _ = _; rw [HRN.out]; simp [mlC, *]
        clear x10 x13 x14
        clear hF0
        go_wp2_with fail
        refine Calls.mono (HZE.out _ _) ?_
        rintro _ w4 ⟨rfl, hb⟩
        have hG4 := se_next hG hb
        clear hb
        go_wp2_with fail
        go_ret2
        exact ⟨_, by rw [HR.out]; rfl, hG4.1.2.2.2⟩
      · have j10 : (C1 == 0) = false := by simp [x10]
        have j13 : (C1 == 3) = false := by simp [x13]
        have j14 : (C1 == 4) = false := by simp [x14]
        have HR : Hid (RN = sgnd E M NN (infN E M)) := by show _ = _; rw [HRN.out]; simp [mlC, *]
        clear x10 x13 x14
        go_wp2_with fail
        refine Calls.mono (HIN.out _ _) ?_
        rintro _ w4 ⟨rfl, hb⟩
        have hG4 := se_next hG hb
        clear hb
        go_wp2_with fail
        go_ret2
        exact ⟨_, by rw [HR.out]; rfl, hG4.1.2.2.2⟩
      · have j10 : (C1 == 0) = false := by simp [x10]
        have j13 : (C1 == 3) = false := by simp [x13]
        have j14 : (C1 == 4) = false := by simp [x14]
        have HR : Hid (RN = NA) := by show _ = _; rw [HRN.out]; simp [mlC, hNA, *]
        clear x10 x13 x14
        go_wp2_with fail
        go_region_held3 (fun W => (W.cell? ⟨w.heap.size, 0, none⟩ = some (.int .u8 (E : Int)) ∧ W.cell? ⟨w.heap.size, 1, none⟩ = some (.int .u8 (M : Int)) ∧ w.heap.size < W.heap.size ∧ Below w.heap.size w W) ∧ (W.cell? ⟨p, 0, none⟩ = some (.bool N1) ∧ W.cell? ⟨p, 1, none⟩ = some (.int .i8 C1) ∧ W.cell? ⟨p, 2, none⟩ = some (.int .i16 V1) ∧ W.cell? ⟨p, 3, none⟩ = some (.int .u64 (R1 : Int)) ∧ (∀ o, W.frozen? ⟨p, o, none⟩ = false) ∧ p < W.heap.size) ∧ (W.cell? ⟨q, 0, none⟩ = some (.bool N2) ∧ W.cell? ⟨q, 1, none⟩ = some (.int .i8 4) ∧ W.cell? ⟨q, 2, none⟩ = some (.int .i16 V2) ∧ W.cell? ⟨q, 3, none⟩ = some (.int .u64 (R2 : Int)) ∧ (∀ o, W.frozen? ⟨q, o, none⟩ = false) ∧ q < W.heap.size))
          ((repeat' (first | with_reducible assumption | with_reducible refine se_drew ?_)))
          ((first | (go_at_call 64; refine Calls.mono (HNA.out _) ?_; rintro _ w4 ⟨rfl, hb⟩; have hG4 := se_next (by with_reducible assumption) hb; clear hb) | (go_at_call 83; refine Calls.mono (HHE.out _) ?_; rintro _ w5 ⟨fl, rfl, hb⟩; have hG5 := se_next (by with_reducible assumption) hb; clear hb)))
        go_wp2_with fail
        go_ret2
        exact ⟨_, by rw [HR.out]; rfl, by first | exact hG5.1.2.2.2 | exact hG4.1.2.2.2⟩
      · have j10 : (C1 == 0) = false := by simp [x10]
        have j13 : (C1 == 3) = false := by simp [x13]
        have j14 : (C1 == 4) = false := by simp [x14]
        have j20 : (C2 == 0) = false := by simp [x20]
        have j23 : (C2 == 3) = false := by simp [x23]
        have j24 : (C2 == 4) = false := by simp [x24]
        have HR : Hid (RN = F) := by show _ = _; rw [HRN.out]; simp [mlC, *]
        have HJ2 := hidden (HJM.out (by exact x10) (by exact x13) (by exact x14) (by exact x20) (by exact x23) (by exact x24))
        have HR2 := hidden (HRP.out (by exact x10) (by exact x13) (by exact x14) (by exact x20) (by exact x23) (by exact x24))
        clear x10 x13 x14 x20 x23 x24
        clear HJM HRP HZF
        go_wp2_with fail
        go_region_held3 (fun W => (W.cell? ⟨w.heap.size, 0, none⟩ = some (.int .u8 (E : Int)) ∧ W.cell? ⟨w.heap.size, 1, none⟩ = some (.int .u8 (M : Int)) ∧ w.heap.size < W.heap.size ∧ Below w.heap.size w W) ∧ (W.cell? ⟨p, 0, none⟩ = some (.bool N1) ∧ W.cell? ⟨p, 1, none⟩ = some (.int .i8 C1) ∧ W.cell? ⟨p, 2, none⟩ = some (.int .i16 V1) ∧ W.cell? ⟨p, 3, none⟩ = some (.int .u64 (R1 : Int)) ∧ (∀ o, W.frozen? ⟨p, o, none⟩ = false) ∧ p < W.heap.size) ∧ (W.cell? ⟨q, 0, none⟩ = some (.bool N2) ∧ W.cell? ⟨q, 1, none⟩ = some (.int .i8 C2) ∧ W.cell? ⟨q, 2, none⟩ = some (.int .i16 V2) ∧ W.cell? ⟨q, 3, none⟩ = some (.int .u64 (R2 : Int)) ∧ (∀ o, W.frozen? ⟨q, o, none⟩ = false) ∧ q < W.heap.size))
          ((repeat' (first | with_reducible assumption | with_reducible refine se_drew ?_)))
          ((first | (go_at_call 184; refine Calls.mono (HMU.out _) ?_; rintro _ w4 ⟨rfl, hb⟩; have hG4 := se_next (by with_reducible assumption) hb; clear hb) | (go_at_call 183; refine Calls.mono (HJ2.out _) ?_; rintro _ w5 ⟨rfl, hb⟩; have hG5 := se_next (by with_reducible assumption) hb; clear hb)))
        clear hG hG4
        go_wp2_with fail
        refine Calls.mono (HR2.out _) ?_
        rintro _ w6 ⟨fl, rfl, hb⟩
        have hG6 := se_next hG5 hb
        clear hb
        go_wp2_with fail
        go_ret2
        exact ⟨_, by rw [HR.out]; rfl, hG6.1.2.2.2⟩

end Go.Proofs.Ygcoaj
