/-
  WALKS: soft.AddFlags (143), soft.SubFlags (144).
-/
import Derived.Test.YgcoajBnA
set_option linter.unusedVariables false
set_option linter.unusedSimpArgs false
namespace Go.Proofs.Ygcoaj
open Go.RowKit

theorem se_next {w W W' : World} {b p q E M : Nat} {x0 x1 x2 x3 y0 y1 y2 y3 : Value} (h : (W.cell? ⟨b, 0, none⟩ = some (.int .u8 (E : Int)) ∧ W.cell? ⟨b, 1, none⟩ = some (.int .u8 (M : Int)) ∧ b < W.heap.size ∧ Below w.heap.size w W) ∧ (W.cell? ⟨p, 0, none⟩ = some x0 ∧ W.cell? ⟨p, 1, none⟩ = some x1 ∧ W.cell? ⟨p, 2, none⟩ = some x2 ∧ W.cell? ⟨p, 3, none⟩ = some x3 ∧ (∀ o, W.frozen? ⟨p, o, none⟩ = false) ∧ p < W.heap.size) ∧ (W.cell? ⟨q, 0, none⟩ = some y0 ∧ W.cell? ⟨q, 1, none⟩ = some y1 ∧ W.cell? ⟨q, 2, none⟩ = some y2 ∧ W.cell? ⟨q, 3, none⟩ = some y3 ∧ (∀ o, W.frozen? ⟨q, o, none⟩ = false) ∧ q < W.heap.size)) (hb : Below W.heap.size W W') : (W'.cell? ⟨b, 0, none⟩ = some (.int .u8 (E : Int)) ∧ W'.cell? ⟨b, 1, none⟩ = some (.int .u8 (M : Int)) ∧ b < W'.heap.size ∧ Below w.heap.size w W') ∧ (W'.cell? ⟨p, 0, none⟩ = some x0 ∧ W'.cell? ⟨p, 1, none⟩ = some x1 ∧ W'.cell? ⟨p, 2, none⟩ = some x2 ∧ W'.cell? ⟨p, 3, none⟩ = some x3 ∧ (∀ o, W'.frozen? ⟨p, o, none⟩ = false) ∧ p < W'.heap.size) ∧ (W'.cell? ⟨q, 0, none⟩ = some y0 ∧ W'.cell? ⟨q, 1, none⟩ = some y1 ∧ W'.cell? ⟨q, 2, none⟩ = some y2 ∧ W'.cell? ⟨q, 3, none⟩ = some y3 ∧ (∀ o, W'.frozen? ⟨q, o, none⟩ = false) ∧ q < W'.heap.size) := ⟨sf_next h.1 hb, bx4_next h.2.1 hb, bx4_next h.2.2 hb⟩
theorem se_drew {w W : World} {b p q E M : Nat} {x0 x1 x2 x3 y0 y1 y2 y3 : Value} (h : (W.cell? ⟨b, 0, none⟩ = some (.int .u8 (E : Int)) ∧ W.cell? ⟨b, 1, none⟩ = some (.int .u8 (M : Int)) ∧ b < W.heap.size ∧ Below w.heap.size w W) ∧ (W.cell? ⟨p, 0, none⟩ = some x0 ∧ W.cell? ⟨p, 1, none⟩ = some x1 ∧ W.cell? ⟨p, 2, none⟩ = some x2 ∧ W.cell? ⟨p, 3, none⟩ = some x3 ∧ (∀ o, W.frozen? ⟨p, o, none⟩ = false) ∧ p < W.heap.size) ∧ (W.cell? ⟨q, 0, none⟩ = some y0 ∧ W.cell? ⟨q, 1, none⟩ = some y1 ∧ W.cell? ⟨q, 2, none⟩ = some y2 ∧ W.cell? ⟨q, 3, none⟩ = some y3 ∧ (∀ o, W.frozen? ⟨q, o, none⟩ = false) ∧ q < W.heap.size)) : (W.drew.cell? ⟨b, 0, none⟩ = some (.int .u8 (E : Int)) ∧ W.drew.cell? ⟨b, 1, none⟩ = some (.int .u8 (M : Int)) ∧ b < W.drew.heap.size ∧ Below w.heap.size w W.drew) ∧ (W.drew.cell? ⟨p, 0, none⟩ = some x0 ∧ W.drew.cell? ⟨p, 1, none⟩ = some x1 ∧ W.drew.cell? ⟨p, 2, none⟩ = some x2 ∧ W.drew.cell? ⟨p, 3, none⟩ = some x3 ∧ (∀ o, W.drew.frozen? ⟨p, o, none⟩ = false) ∧ p < W.drew.heap.size) ∧ (W.drew.cell? ⟨q, 0, none⟩ = some y0 ∧ W.drew.cell? ⟨q, 1, none⟩ = some y1 ∧ W.drew.cell? ⟨q, 2, none⟩ = some y2 ∧ W.drew.cell? ⟨q, 3, none⟩ = some y3 ∧ (∀ o, W.drew.frozen? ⟨q, o, none⟩ = false) ∧ q < W.drew.heap.size) := ⟨sf_drew h.1, bx4_drew h.2.1, bx4_drew h.2.2⟩

/-- the sum by classes -/
def adC (E M : Nat) (C1 C2 : Int) (N1 N2 : Bool) (F : Nat) : Nat :=
  if C1 = 4 ∨ C2 = 4 then nanN E M else if C1 = 3 ∧ C2 = 3 ∧ N1 ≠ N2 then nanN E M else if C1 = 3 then sgnd E M N1 (infN E M) else if C2 = 3 then sgnd E M N2 (infN E M) else F

set_option maxRecDepth 100000 in
set_option maxHeartbeats 8000000 in
theorem add2S (E M mo a b F NA : Nat) (N1 N2 : Bool) (C1 C2 V1 V2 : Int) (R1 R2 : Nat) (hc1 : C1 = 0 ∨ C1 = 3 ∨ C1 = 4 ∨ (C1 ≠ 0 ∧ C1 ≠ 3 ∧ C1 ≠ 4)) (hc2 : C2 = 0 ∨ C2 = 3 ∨ C2 = 4 ∨ (C2 ≠ 0 ∧ C2 ≠ 3 ∧ C2 ≠ 4))
    (HO : Hid (∀ w, Calls Oajg.prog 17 #[.agg #[.int .u8 (E : Int), .int .u8 (M : Int)]] w fun e w' => e = .returned (.bool true) ∧ Below w.heap.size w w'))
    (HA : Hid (∀ w, Calls Oajg.prog 74 #[.agg #[.int .u8 (E : Int), .int .u8 (M : Int)], .int .u64 (a : Int)] w fun e w' => e = .returned (.agg #[.bool N1, .int .i8 C1, .int .i16 V1, .int .u64 (R1 : Int)]) ∧ Below w.heap.size w w'))
    (HB : Hid (∀ w, Calls Oajg.prog 74 #[.agg #[.int .u8 (E : Int), .int .u8 (M : Int)], .int .u64 (b : Int)] w fun e w' => e = .returned (.agg #[.bool N2, .int .i8 C2, .int .i16 V2, .int .u64 (R2 : Int)]) ∧ Below w.heap.size w w'))
    (HNA : Hid (∀ w, Calls Oajg.prog 64 #[.agg #[.int .u8 (E : Int), .int .u8 (M : Int)]] w fun e w' => e = .returned (.int .u64 (NA : Int)) ∧ Below w.heap.size w w'))
    (HHE : Hid (∀ w, Calls Oajg.prog 83 #[.agg #[.int .u8 (E : Int), .int .u8 (M : Int)], .int .u64 (a : Int), .int .u64 (b : Int)] w fun e w' => ∃ fl, e = .returned (.int .u8 fl) ∧ Below w.heap.size w w'))
    (HIN : Hid (∀ n w, Calls Oajg.prog 84 #[.agg #[.int .u8 (E : Int), .int .u8 (M : Int)], .bool n] w fun e w' => e = .returned (.int .u64 (sgnd E M n (infN E M) : Nat)) ∧ Below w.heap.size w w'))
    (hNA : nanN E M = NA)
    (HFI : Hid (C1 ≠ 3 → C1 ≠ 4 → C2 ≠ 3 → C2 ≠ 4 → ∀ w, Calls Oajg.prog 182 #[.agg #[.int .u8 (E : Int), .int .u8 (M : Int)], .int .u8 (mo : Int), .agg #[.bool N1, .int .i8 C1, .int .i16 V1, .int .u64 (R1 : Int)], .agg #[.bool N2, .int .i8 C2, .int .i16 V2, .int .u64 (R2 : Int)]] w fun e w' => ∃ fl, e = .returned (.tuple #[.int .u64 (F : Nat), .int .u8 fl]) ∧ Below w.heap.size w w'))
    (w : World) : Calls Oajg.prog 143 #[.agg #[.int .u8 (E : Int), .int .u8 (M : Int)], .int .u8 (mo : Int), .int .u64 (a : Int), .int .u64 (b : Int)] w fun e w' => ∃ fl, e = .returned (.tuple #[.int .u64 (adC E M C1 C2 N1 N2 F : Nat), .int .u8 fl]) ∧ Below w.heap.size w w' := by
  obtain ⟨RN, HRN⟩ : ∃ RN, Hid (RN = adC E M C1 C2 N1 N2 F) := ⟨_, rfl⟩
  rw [← HRN.out]
  have hS := sf_box w E M
  go_enter Oajg.func143, Oajg.ntmps143
  go_wp2_with fail
  refine Calls.mono (HO.out _) ?_
  rintro _ w0 ⟨rfl, hq⟩
  replace hS := sf_next hS hq
  clear hq
  have hn0 := hS.2.2.1
  go_wp2_with fail
  have hlt2 : ∀ n : Nat, n < n + 1 + 1 := fun n => by omega
  go_cut [10, 11] (fun s7 s8 W => ∃ p q : Nat, s7 = .pointer (some ⟨p, 0, none⟩) ∧ s8 = .pointer (some ⟨q, 0, none⟩) ∧ p ≠ q ∧ w.heap.size < p ∧ w.heap.size < q ∧
    (W.cell? ⟨p, 0, none⟩ = some (.bool N1) ∧ W.cell? ⟨p, 1, none⟩ = some (.int .i8 C1) ∧ W.cell? ⟨p, 2, none⟩ = some (.int .i16 V1) ∧ W.cell? ⟨p, 3, none⟩ = some (.int .u64 (R1 : Int)) ∧ (∀ o, W.frozen? ⟨p, o, none⟩ = false) ∧ p < W.heap.size) ∧ (W.cell? ⟨q, 0, none⟩ = some (.bool N2) ∧ W.cell? ⟨q, 1, none⟩ = some (.int .i8 C2) ∧ W.cell? ⟨q, 2, none⟩ = some (.int .i16 V2) ∧ W.cell? ⟨q, 3, none⟩ = some (.int .u64 (R2 : Int)) ∧ (∀ o, W.frozen? ⟨q, o, none⟩ = false) ∧ q < W.heap.size) ∧ (W.cell? ⟨w.heap.size, 0, none⟩ = some (.int .u8 (E : Int)) ∧ W.cell? ⟨w.heap.size, 1, none⟩ = some (.int .u8 (M : Int)) ∧ w.heap.size < W.heap.size ∧ Below w.heap.size w W))
  case first =>
    go_region_held3 (fun W => W.cell? ⟨w.heap.size, 0, none⟩ = some (.int .u8 (E : Int)) ∧ W.cell? ⟨w.heap.size, 1, none⟩ = some (.int .u8 (M : Int)) ∧ w.heap.size < W.heap.size ∧ Below w.heap.size w W) ((repeat' (first | with_reducible assumption | with_reducible refine sf_drew ?_ | with_reducible refine sf_alloc ?_ _ | with_reducible refine sf_store ?_ ?_ | (simp only [World.size_alloc, World.size_drew, World.size_setCell]; omega) | omega))) ((go_at_call 74; (first | with_reducible refine Calls.mono (HA.out _) ?_ | with_reducible refine Calls.mono (HB.out _) ?_); rintro _ w1 ⟨rfl, hb⟩; have hS1 := sf_next (by with_reducible assumption) hb; have hn1 := hS1.2.2.1; have hzn := hb.size; obtain ⟨hc, hf, hz⟩ := bfacts2 hb; (try simp only [World.size_alloc, World.size_drew] at hc hf hz hzn); (try have hk0 : w0.heap.size < w1.heap.size := hz _ (by omega)); (try have hk1 : w0.heap.size + 1 < w1.heap.size := hz _ (by omega)); (try have hk2 : w0.heap.size < w1.heap.size + 1 := by omega); (try have hk3 : w0.heap.size < w1.heap.size + 1 + 1 := by omega); (try have hne0 : w0.heap.size ≠ w1.heap.size := by omega); (try have hne1 : w1.heap.size ≠ w0.heap.size := by omega); clear hb))
    all_goals go_wp2_with fail
    all_goals go_meet
    all_goals refine ⟨_, _, rfl, rfl, ?_, ?_, ?_, ⟨?_, ?_, ?_, ?_, ?_, ?_⟩, ⟨?_, ?_, ?_, ?_, ?_, ?_⟩, ?_⟩
    all_goals first
      | with_reducible assumption
      | omega
      | (simp only [World.size_alloc, World.size_drew, World.size_setCell]; omega)
      | (simp [*, go_sem]; done)
      | (intro o; simp [*, go_sem]; done)
  case rest =>
    obtain ⟨p, q, rfl, rfl, hpq, hp, hq, hP, hQ, hS2⟩ := hcut
    have hG : (wc.cell? ⟨w.heap.size, 0, none⟩ = some (.int .u8 (E : Int)) ∧ wc.cell? ⟨w.heap.size, 1, none⟩ = some (.int .u8 (M : Int)) ∧ w.heap.size < wc.heap.size ∧ Below w.heap.size w wc) ∧ (wc.cell? ⟨p, 0, none⟩ = some (.bool N1) ∧ wc.cell? ⟨p, 1, none⟩ = some (.int .i8 C1) ∧ wc.cell? ⟨p, 2, none⟩ = some (.int .i16 V1) ∧ wc.cell? ⟨p, 3, none⟩ = some (.int .u64 (R1 : Int)) ∧ (∀ o, wc.frozen? ⟨p, o, none⟩ = false) ∧ p < wc.heap.size) ∧ (wc.cell? ⟨q, 0, none⟩ = some (.bool N2) ∧ wc.cell? ⟨q, 1, none⟩ = some (.int .i8 C2) ∧ wc.cell? ⟨q, 2, none⟩ = some (.int .i16 V2) ∧ wc.cell? ⟨q, 3, none⟩ = some (.int .u64 (R2 : Int)) ∧ (∀ o, wc.frozen? ⟨q, o, none⟩ = false) ∧ q < wc.heap.size) := ⟨hS2, hP, hQ⟩
    clear hS hn0 HA HB HO hlt2 hP hQ hS2
    rcases hc1 with rfl | rfl | rfl | ⟨x10, x13, x14⟩
    · rcases hc2 with rfl | rfl | rfl | ⟨x20, x23, x24⟩
      · have HF2 := hidden (HFI.out (by decide) (by decide) (by decide) (by decide))
        have HR : Hid (RN = F) := by show _ = _; rw [HRN.out]; simp [adC, hNA, *]
        go_wp2_with fail
        refine Calls.mono (HF2.out _) ?_
        rintro _ w4 ⟨fl, rfl, hb⟩
        have hG4 := se_next hG hb
        clear hb
        go_wp2_with fail
        go_ret2
        exact ⟨_, by rw [HR.out]; rfl, hG4.1.2.2.2⟩
      · have HR : Hid (RN = sgnd E M N2 (infN E M)) := by show _ = _; rw [HRN.out]; simp [adC, hNA, *]
        go_wp2_with fail
        refine Calls.mono (HIN.out _ _) ?_
        rintro _ w4 ⟨rfl, hb⟩
        have hG4 := se_next hG hb
        clear hb
        go_wp2_with fail
        go_ret2
        exact ⟨_, by rw [HR.out]; rfl, hG4.1.2.2.2⟩
      · have HR : Hid (RN = NA) := by show _ = _; rw [HRN.out]; simp [adC, hNA, *]
        go_wp2_with fail
        go_region_held3 (fun W => (W.cell? ⟨w.heap.size, 0, none⟩ = some (.int .u8 (E : Int)) ∧ W.cell? ⟨w.heap.size, 1, none⟩ = some (.int .u8 (M : Int)) ∧ w.heap.size < W.heap.size ∧ Below w.heap.size w W) ∧ (W.cell? ⟨p, 0, none⟩ = some (.bool N1) ∧ W.cell? ⟨p, 1, none⟩ = some (.int .i8 0) ∧ W.cell? ⟨p, 2, none⟩ = some (.int .i16 V1) ∧ W.cell? ⟨p, 3, none⟩ = some (.int .u64 (R1 : Int)) ∧ (∀ o, W.frozen? ⟨p, o, none⟩ = false) ∧ p < W.heap.size) ∧ (W.cell? ⟨q, 0, none⟩ = some (.bool N2) ∧ W.cell? ⟨q, 1, none⟩ = some (.int .i8 4) ∧ W.cell? ⟨q, 2, none⟩ = some (.int .i16 V2) ∧ W.cell? ⟨q, 3, none⟩ = some (.int .u64 (R2 : Int)) ∧ (∀ o, W.frozen? ⟨q, o, none⟩ = false) ∧ q < W.heap.size))
          ((repeat' (first | with_reducible assumption | with_reducible refine se_drew ?_)))
          ((first | (go_at_call 64; refine Calls.mono (HNA.out _) ?_; rintro _ w4 ⟨rfl, hb⟩; have hG4 := se_next (by with_reducible assumption) hb; clear hb) | (go_at_call 83; refine Calls.mono (HHE.out _) ?_; rintro _ w5 ⟨fl, rfl, hb⟩; have hG5 := se_next (by with_reducible assumption) hb; clear hb)))
        go_wp2_with fail
        go_ret2
        exact ⟨_, by rw [HR.out]; rfl, by first | exact hG5.1.2.2.2 | exact hG4.1.2.2.2⟩
      · have j20 : (C2 == 0) = false := by simp [x20]
        have j23 : (C2 == 3) = false := by simp [x23]
        have j24 : (C2 == 4) = false := by simp [x24]
        have HF2 := hidden (HFI.out (by decide) (by decide) (by exact x23) (by exact x24))
        have HR : Hid (RN = F) := by show _ = _; rw [HRN.out]; simp [adC, hNA, *]
        clear x20 x23 x24
        go_wp2_with fail
        refine Calls.mono (HF2.out _) ?_
        rintro _ w4 ⟨fl, rfl, hb⟩
        have hG4 := se_next hG hb
        clear hb
        go_wp2_with fail
        go_ret2
        exact ⟨_, by rw [HR.out]; rfl, hG4.1.2.2.2⟩
    · rcases hc2 with rfl | rfl | rfl | ⟨x20, x23, x24⟩
      · have HR : Hid (RN = sgnd E M N1 (infN E M)) := by show _ = _; rw [HRN.out]; simp [adC, hNA, *]
        go_wp2_with fail
        refine Calls.mono (HIN.out _ _) ?_
        rintro _ w4 ⟨rfl, hb⟩
        have hG4 := se_next hG hb
        clear hb
        go_wp2_with fail
        go_ret2
        exact ⟨_, by rw [HR.out]; rfl, hG4.1.2.2.2⟩
      · by_cases hn : N1 = N2
        · subst hn
          have HR : Hid (RN = sgnd E M N1 (infN E M)) := by show _ = _; rw [HRN.out]; simp [adC]
          clear HRN
          have HI1 := hidden (HIN.out N1)
          generalize sgnd E M N1 (infN E M) = RI at *
          clear HIN
          cases N1
          all_goals
            go_wp2_with fail
            refine Calls.mono (HI1.out _) ?_
            rintro _ w4 ⟨rfl, hb⟩
            have hG4 := se_next hG hb
            clear hb
            go_wp2_with fail
            go_ret2
            exact ⟨_, by rw [HR.out]; rfl, hG4.1.2.2.2⟩
        · have HR : Hid (RN = NA) := by show _ = _; rw [HRN.out]; simp [adC, hn, hNA]
          clear HRN
          cases N1 <;> cases N2 <;> simp at hn
          all_goals
            go_wp2_with fail
            refine Calls.mono (HNA.out _) ?_
            rintro _ w4 ⟨rfl, hb⟩
            have hG4 := se_next hG hb
            clear hb
            go_wp2_with fail
            go_ret2
            exact ⟨_, by rw [HR.out]; rfl, hG4.1.2.2.2⟩
      · have HR : Hid (RN = NA) := by show _ = _; rw [HRN.out]; simp [adC, hNA, *]
        go_wp2_with fail
        go_region_held3 (fun W => (W.cell? ⟨w.heap.size, 0, none⟩ = some (.int .u8 (E : Int)) ∧ W.cell? ⟨w.heap.size, 1, none⟩ = some (.int .u8 (M : Int)) ∧ w.heap.size < W.heap.size ∧ Below w.heap.size w W) ∧ (W.cell? ⟨p, 0, none⟩ = some (.bool N1) ∧ W.cell? ⟨p, 1, none⟩ = some (.int .i8 3) ∧ W.cell? ⟨p, 2, none⟩ = some (.int .i16 V1) ∧ W.cell? ⟨p, 3, none⟩ = some (.int .u64 (R1 : Int)) ∧ (∀ o, W.frozen? ⟨p, o, none⟩ = false) ∧ p < W.heap.size) ∧ (W.cell? ⟨q, 0, none⟩ = some (.bool N2) ∧ W.cell? ⟨q, 1, none⟩ = some (.int .i8 4) ∧ W.cell? ⟨q, 2, none⟩ = some (.int .i16 V2) ∧ W.cell? ⟨q, 3, none⟩ = some (.int .u64 (R2 : Int)) ∧ (∀ o, W.frozen? ⟨q, o, none⟩ = false) ∧ q < W.heap.size))
          ((repeat' (first | with_reducible assumption | with_reducible refine se_drew ?_)))
          ((first | (go_at_call 64; refine Calls.mono (HNA.out _) ?_; rintro _ w4 ⟨rfl, hb⟩; have hG4 := se_next (by with_reducible assumption) hb; clear hb) | (go_at_call 83; refine Calls.mono (HHE.out _) ?_; rintro _ w5 ⟨fl, rfl, hb⟩; have hG5 := se_next (by with_reducible assumption) hb; clear hb)))
        go_wp2_with fail
        go_ret2
        exact ⟨_, by rw [HR.out]; rfl, by first | exact hG5.1.2.2.2 | exact hG4.1.2.2.2⟩
      · have j20 : (C2 == 0) = false := by simp [x20]
        have j23 : (C2 == 3) = false := by simp [x23]
        have j24 : (C2 == 4) = false := by simp [x24]
        have HR : Hid (RN = sgnd E M N1 (infN E M)) := by show _ = _; rw [HRN.out]; simp [adC, hNA, *]
        clear x20 x23 x24
        go_wp2_with fail
        refine Calls.mono (HIN.out _ _) ?_
        rintro _ w4 ⟨rfl, hb⟩
        have hG4 := se_next hG hb
        clear hb
        go_wp2_with fail
        go_ret2
        exact ⟨_, by rw [HR.out]; rfl, hG4.1.2.2.2⟩
    · rcases hc2 with rfl | rfl | rfl | ⟨x20, x23, x24⟩
      · have HR : Hid (RN = NA) := by show _ = _; rw [HRN.out]; simp [adC, hNA, *]
        go_wp2_with fail
        go_region_held3 (fun W => (W.cell? ⟨w.heap.size, 0, none⟩ = some (.int .u8 (E : Int)) ∧ W.cell? ⟨w.heap.size, 1, none⟩ = some (.int .u8 (M : Int)) ∧ w.heap.size < W.heap.size ∧ Below w.heap.size w W) ∧ (W.cell? ⟨p, 0, none⟩ = some (.bool N1) ∧ W.cell? ⟨p, 1, none⟩ = some (.int .i8 4) ∧ W.cell? ⟨p, 2, none⟩ = some (.int .i16 V1) ∧ W.cell? ⟨p, 3, none⟩ = some (.int .u64 (R1 : Int)) ∧ (∀ o, W.frozen? ⟨p, o, none⟩ = false) ∧ p < W.heap.size) ∧ (W.cell? ⟨q, 0, none⟩ = some (.bool N2) ∧ W.cell? ⟨q, 1, none⟩ = some (.int .i8 0) ∧ W.cell? ⟨q, 2, none⟩ = some (.int .i16 V2) ∧ W.cell? ⟨q, 3, none⟩ = some (.int .u64 (R2 : Int)) ∧ (∀ o, W.frozen? ⟨q, o, none⟩ = false) ∧ q < W.heap.size))
          ((repeat' (first | with_reducible assumption | with_reducible refine se_drew ?_)))
          ((first | (go_at_call 64; refine Calls.mono (HNA.out _) ?_; rintro _ w4 ⟨rfl, hb⟩; have hG4 := se_next (by with_reducible assumption) hb; clear hb) | (go_at_call 83; refine Calls.mono (HHE.out _) ?_; rintro _ w5 ⟨fl, rfl, hb⟩; have hG5 := se_next (by with_reducible assumption) hb; clear hb)))
        go_wp2_with fail
        go_ret2
        exact ⟨_, by rw [HR.out]; rfl, by first | exact hG5.1.2.2.2 | exact hG4.1.2.2.2⟩
      · have HR : Hid (RN = NA) := by show _ = _; rw [HRN.out]; simp [adC, hNA, *]
        go_wp2_with fail
        go_region_held3 (fun W => (W.cell? ⟨w.heap.size, 0, none⟩ = some (.int .u8 (E : Int)) ∧ W.cell? ⟨w.heap.size, 1, none⟩ = some (.int .u8 (M : Int)) ∧ w.heap.size < W.heap.size ∧ Below w.heap.size w W) ∧ (W.cell? ⟨p, 0, none⟩ = some (.bool N1) ∧ W.cell? ⟨p, 1, none⟩ = some (.int .i8 4) ∧ W.cell? ⟨p, 2, none⟩ = some (.int .i16 V1) ∧ W.cell? ⟨p, 3, none⟩ = some (.int .u64 (R1 : Int)) ∧ (∀ o, W.frozen? ⟨p, o, none⟩ = false) ∧ p < W.heap.size) ∧ (W.cell? ⟨q, 0, none⟩ = some (.bool N2) ∧ W.cell? ⟨q, 1, none⟩ = some (.int .i8 3) ∧ W.cell? ⟨q, 2, none⟩ = some (.int .i16 V2) ∧ W.cell? ⟨q, 3, none⟩ = some (.int .u64 (R2 : Int)) ∧ (∀ o, W.frozen? ⟨q, o, none⟩ = false) ∧ q < W.heap.size))
          ((repeat' (first | with_reducible assumption | with_reducible refine se_drew ?_)))
          ((first | (go_at_call 64; refine Calls.mono (HNA.out _) ?_; rintro _ w4 ⟨rfl, hb⟩; have hG4 := se_next (by with_reducible assumption) hb; clear hb) | (go_at_call 83; refine Calls.mono (HHE.out _) ?_; rintro _ w5 ⟨fl, rfl, hb⟩; have hG5 := se_next (by with_reducible assumption) hb; clear hb)))
        go_wp2_with fail
        go_ret2
        exact ⟨_, by rw [HR.out]; rfl, by first | exact hG5.1.2.2.2 | exact hG4.1.2.2.2⟩
      · have HR : Hid (RN = NA) := by show _ = _; rw [HRN.out]; simp [adC, hNA, *]
        go_wp2_with fail
        go_region_held3 (fun W => (W.cell? ⟨w.heap.size, 0, none⟩ = some (.int .u8 (E : Int)) ∧ W.cell? ⟨w.heap.size, 1, none⟩ = some (.int .u8 (M : Int)) ∧ w.heap.size < W.heap.size ∧ Below w.heap.size w W) ∧ (W.cell? ⟨p, 0, none⟩ = some (.bool N1) ∧ W.cell? ⟨p, 1, none⟩ = some (.int .i8 4) ∧ W.cell? ⟨p, 2, none⟩ = some (.int .i16 V1) ∧ W.cell? ⟨p, 3, none⟩ = some (.int .u64 (R1 : Int)) ∧ (∀ o, W.frozen? ⟨p, o, none⟩ = false) ∧ p < W.heap.size) ∧ (W.cell? ⟨q, 0, none⟩ = some (.bool N2) ∧ W.cell? ⟨q, 1, none⟩ = some (.int .i8 4) ∧ W.cell? ⟨q, 2, none⟩ = some (.int .i16 V2) ∧ W.cell? ⟨q, 3, none⟩ = some (.int .u64 (R2 : Int)) ∧ (∀ o, W.frozen? ⟨q, o, none⟩ = false) ∧ q < W.heap.size))
          ((repeat' (first | with_reducible assumption | with_reducible refine se_drew ?_)))
          ((first | (go_at_call 64; refine Calls.mono (HNA.out _) ?_; rintro _ w4 ⟨rfl, hb⟩; have hG4 := se_next (by with_reducible assumption) hb; clear hb) | (go_at_call 83; refine Calls.mono (HHE.out _) ?_; rintro _ w5 ⟨fl, rfl, hb⟩; have hG5 := se_next (by with_reducible assumption) hb; clear hb)))
        go_wp2_with fail
        go_ret2
        exact ⟨_, by rw [HR.out]; rfl, by first | exact hG5.1.2.2.2 | exact hG4.1.2.2.2⟩
      · have j20 : (C2 == 0) = false := by simp [x20]
        have j23 : (C2 == 3) = false := by simp [x23]
        have j24 : (C2 == 4) = false := by simp [x24]
        have HR : Hid (RN = NA) := by show _ = _; rw [HRN.out]; simp [adC, hNA, *]
        clear x20 x23 x24
        go_wp2_with fail
        go_region_held3 (fun W => (W.cell? ⟨w.heap.size, 0, none⟩ = some (.int .u8 (E : Int)) ∧ W.cell? ⟨w.heap.size, 1, none⟩ = some (.int .u8 (M : Int)) ∧ w.heap.size < W.heap.size ∧ Below w.heap.size w W) ∧ (W.cell? ⟨p, 0, none⟩ = some (.bool N1) ∧ W.cell? ⟨p, 1, none⟩ = some (.int .i8 4) ∧ W.cell? ⟨p, 2, none⟩ = some (.int .i16 V1) ∧ W.cell? ⟨p, 3, none⟩ = some (.int .u64 (R1 : Int)) ∧ (∀ o, W.frozen? ⟨p, o, none⟩ = false) ∧ p < W.heap.size) ∧ (W.cell? ⟨q, 0, none⟩ = some (.bool N2) ∧ W.cell? ⟨q, 1, none⟩ = some (.int .i8 C2) ∧ W.cell? ⟨q, 2, none⟩ = some (.int .i16 V2) ∧ W.cell? ⟨q, 3, none⟩ = some (.int .u64 (R2 : Int)) ∧ (∀ o, W.frozen? ⟨q, o, none⟩ = false) ∧ q < W.heap.size))
          ((repeat' (first | with_reducible assumption | with_reducible refine se_drew ?_)))
          ((first | (go_at_call 64; refine Calls.mono (HNA.out _) ?_; rintro _ w4 ⟨rfl, hb⟩; have hG4 := se_next (by with_reducible assumption) hb; clear hb) | (go_at_call 83; refine Calls.mono (HHE.out _) ?_; rintro _ w5 ⟨fl, rfl, hb⟩; have hG5 := se_next (by with_reducible assumption) hb; clear hb)))
        go_wp2_with fail
        go_ret2
        exact ⟨_, by rw [HR.out]; rfl, by first | exact hG5.1.2.2.2 | exact hG4.1.2.2.2⟩
    · rcases hc2 with rfl | rfl | rfl | ⟨x20, x23, x24⟩
      · have j10 : (C1 == 0) = false := by simp [x10]
        have j13 : (C1 == 3) = false := by simp [x13]
        have j14 : (C1 == 4) = false := by simp [x14]
        have HF2 := hidden (HFI.out (by exact x13) (by exact x14) (by decide) (by decide))
        have HR : Hid (RN = F) := by show _ = _; rw [HRN.out]; simp [adC, hNA, *]
        clear x10 x13 x14
        go_wp2_with fail
        refine Calls.mono (HF2.out _) ?_
        rintro _ w4 ⟨fl, rfl, hb⟩
        have hG4 := se_next hG hb
        clear hb
        go_wp2_with fail
        go_ret2
        exact ⟨_, by rw [HR.out]; rfl, hG4.1.2.2.2⟩
      · have j10 : (C1 == 0) = false := by simp [x10]
        have j13 : (C1 == 3) = false := by simp [x13]
        have j14 : (C1 == 4) = false := by simp [x14]
        have HR : Hid (RN = sgnd E M N2 (infN E M)) := by show _ = _; rw [HRN.out]; simp [adC, hNA, *]
        clear x10 x13 x14
        go_wp2_with fail
        refine Calls.mono (HIN.out _ _) ?_
        rintro _ w4 ⟨rfl, hb⟩
        have hG4 := se_next hG hb
        clear hb
        go_wp2_with fail
        go_ret2
        exact ⟨_, by rw [HR.out]; rfl, hG4.1.2.2.2⟩
      · have j10 : (C1 == 0) = false := by simp [x10]
        have j13 : (C1 == 3) = false := by simp [x13]
        have j14 : (C1 == 4) = false := by simp [x14]
        have HR : Hid (RN = NA) := by show _ = _; rw [HRN.out]; simp [adC, hNA, *]
        clear x10 x13 x14
        go_wp2_with fail
        go_region_held3 (fun W => (W.cell? ⟨w.heap.size, 0, none⟩ = some (.int .u8 (E : Int)) ∧ W.cell? ⟨w.heap.size, 1, none⟩ = some (.int .u8 (M : Int)) ∧ w.heap.size < W.heap.size ∧ Below w.heap.size w W) ∧ (W.cell? ⟨p, 0, none⟩ = some (.bool N1) ∧ W.cell? ⟨p, 1, none⟩ = some (.int .i8 C1) ∧ W.cell? ⟨p, 2, none⟩ = some (.int .i16 V1) ∧ W.cell? ⟨p, 3, none⟩ = some (.int .u64 (R1 : Int)) ∧ (∀ o, W.frozen? ⟨p, o, none⟩ = false) ∧ p < W.heap.size) ∧ (W.cell? ⟨q, 0, none⟩ = some (.bool N2) ∧ W.cell? ⟨q, 1, none⟩ = some (.int .i8 4) ∧ W.cell? ⟨q, 2, none⟩ = some (.int .i16 V2) ∧ W.cell? ⟨q, 3, none⟩ = some (.int .u64 (R2 : Int)) ∧ (∀ o, W.frozen? ⟨q, o, none⟩ = false) ∧ q < W.heap.size))
          ((repeat' (first | with_reducible assumption | with_reducible refine se_drew ?_)))
          ((first | (go_at_call 64; refine Calls.mono (HNA.out _) ?_; rintro _ w4 ⟨rfl, hb⟩; have hG4 := se_next (by with_reducible assumption) hb; clear hb) | (go_at_call 83; refine Calls.mono (HHE.out _) ?_; rintro _ w5 ⟨fl, rfl, hb⟩; have hG5 := se_next (by with_reducible assumption) hb; clear hb)))
        go_wp2_with fail
        go_ret2
        exact ⟨_, by rw [HR.out]; rfl, by first | exact hG5.1.2.2.2 | exact hG4.1.2.2.2⟩
      · have j10 : (C1 == 0) = false := by simp [x10]
        have j13 : (C1 == 3) = false := by simp [x13]
        have j14 : (C1 == 4) = false := by simp [x14]
        have j20 : (C2 == 0) = false := by simp [x20]
        have j23 : (C2 == 3) = false := by simp [x23]
        have j24 : (C2 == 4) = false := by simp [x24]
        have HF2 := hidden (HFI.out (by exact x13) (by exact x14) (by exact x23) (by exact x24))
        have HR : Hid (RN = F) := by show _ = _; rw [HRN.out]; simp [adC, hNA, *]
        clear x10 x13 x14 x20 x23 x24
        go_wp2_with fail
        refine Calls.mono (HF2.out _) ?_
        rintro _ w4 ⟨fl, rfl, hb⟩
        have hG4 := se_next hG hb
        clear hb
        go_wp2_with fail
        go_ret2
        exact ⟨_, by rw [HR.out]; rfl, hG4.1.2.2.2⟩

end Go.Proofs.Ygcoaj
