/-
  WALK: soft.Cmp.
-/
import Derived.Test.YgcoajBox
set_option linter.unusedVariables false
set_option linter.unusedSimpArgs false
namespace Go.Proofs.Ygcoaj
open Go.RowKit

theorem ret_i8b {a b : Int} (h : a = b) : Ending.returned (.int .i8 a) = .returned (.int .i8 b) := by rw [h]
/-- soft.Cmp's answer -/
def softCmp (E M a b : Nat) : Int :=
  if (upC E M a == 4) || (upC E M b == 4) then 2
  else if ((a % 2 ^ (E + M) == 0) && (b % 2 ^ (E + M) == 0)) || ((upN E M a == upN E M b) && (a % 2 ^ (E + M) == b % 2 ^ (E + M))) then 0
  else if ((upN E M a != upN E M b) && upN E M a) || ((upN E M a == upN E M b) && (decide (a % 2 ^ (E + M) < b % 2 ^ (E + M)) != upN E M a)) then -1
  else 1

set_option maxRecDepth 100000 in
set_option maxHeartbeats 4000000 in
theorem softCmp_ok (E M : Nat) (h : FOk E M) (a b : Nat) (ha : a < 18446744073709551616) (hb : b < 18446744073709551616) (w : World) :
    Calls Oajg.prog 56 #[.agg #[.int .u8 (E : Int), .int .u8 (M : Int)], .int .u64 (a : Int), .int .u64 (b : Int)] w fun e w' => e = .returned (.int .i8 (softCmp E M a b)) ∧ Below w.heap.size w w' := by
  have HO : Hid (∀ w, Calls Oajg.prog 17 #[.agg #[.int .u8 (E : Int), .int .u8 (M : Int)]] w fun e w' => e = .returned (.bool true) ∧ Below w.heap.size w w') := ok_yes h
  have HS : Hid (∀ w, Calls Oajg.prog 105 #[.agg #[.int .u8 (E : Int), .int .u8 (M : Int)]] w fun e w' => e = .returned (.int .u64 ((2 ^ (E + M) : Nat) : Int)) ∧ Below w.heap.size w w') := signBit_ok E M h
  have HA : Hid (∀ w, Calls Oajg.prog 74 #[.agg #[.int .u8 (E : Int), .int .u8 (M : Int)], .int .u64 (a : Int)] w fun e w' => e = .returned (.agg #[.bool (upN E M a), .int .i8 (upC E M a), .int .i16 (upE E M a), .int .u64 (upM E M a : Nat)]) ∧ Below w.heap.size w w') := unpack_ok E M h a ha
  have HB : Hid (∀ w, Calls Oajg.prog 74 #[.agg #[.int .u8 (E : Int), .int .u8 (M : Int)], .int .u64 (b : Int)] w fun e w' => e = .returned (.agg #[.bool (upN E M b), .int .i8 (upC E M b), .int .i16 (upE E M b), .int .u64 (upM E M b : Nat)]) ∧ Below w.heap.size w w') := unpack_ok E M h b hb
  have hS := sf_box w E M
  unfold softCmp
  generalize upN E M a = N1 at *
  generalize upC E M a = C1 at *
  generalize upE E M a = V1 at *
  generalize upM E M a = R1 at *
  generalize upN E M b = N2 at *
  generalize upC E M b = C2 at *
  generalize upE E M b = V2 at *
  generalize upM E M b = R2 at *
  obtain ⟨e2, e11, m2, m52⟩ := h
  have p1 := pow2_lt64 (E + M) (by omega)
  have p2 := pow2_pos (E + M)
  have k1 : IntKind.u64.wrap (((2 ^ (E + M) : Nat) : Int) - 1) = ((2 ^ (E + M) - 1 : Nat) : Int) := wrap64' (by omega) (by omega)
  have k2 : bits .and .u64 (a : Int) ((2 ^ (E + M) - 1 : Nat) : Int) = ((a % 2 ^ (E + M) : Nat) : Int) := by
    rw [bits_and_u64_nat _ _ ha (by omega), Nat.and_two_pow_sub_one_eq_mod]
  have k3 : bits .and .u64 (b : Int) ((2 ^ (E + M) - 1 : Nat) : Int) = ((b % 2 ^ (E + M) : Nat) : Int) := by
    rw [bits_and_u64_nat _ _ hb (by omega), Nat.and_two_pow_sub_one_eq_mod]
  have k4 : bits .or .u64 ((a % 2 ^ (E + M) : Nat) : Int) ((b % 2 ^ (E + M) : Nat) : Int) = ((a % 2 ^ (E + M) ||| b % 2 ^ (E + M) : Nat) : Int) :=
    bits_or_u64_nat _ _ (Nat.lt_of_le_of_lt (Nat.mod_le _ _) ha) (Nat.lt_of_le_of_lt (Nat.mod_le _ _) hb)
  have k5 : ((a % 2 ^ (E + M) ||| b % 2 ^ (E + M) : Nat) == 0) = ((a % 2 ^ (E + M) == 0) && (b % 2 ^ (E + M) == 0)) := by
    rw [Bool.eq_iff_iff]; simp
  rw [← k5]
  have r1 : a % 2 ^ (E + M) < 18446744073709551616 := Nat.lt_of_le_of_lt (Nat.mod_le _ _) ha
  have r2 : b % 2 ^ (E + M) < 18446744073709551616 := Nat.lt_of_le_of_lt (Nat.mod_le _ _) hb
  clear k5
  generalize a % 2 ^ (E + M) = A at *
  generalize b % 2 ^ (E + M) = B at *
  generalize 2 ^ (E + M) - 1 = P1 at *
  generalize 2 ^ (E + M) = P at *
  generalize A ||| B = O at *
  clear p1 p2
  have iA : ((A : Int) == (B : Int)) = (A == B) := by rw [Bool.eq_iff_iff]; simp; omega
  have iO : ((O : Int) == 0) = (O == 0) := by rw [Bool.eq_iff_iff]; simp
  have HRES : ∃ r : Int, Hid (r = (if (C1 == 4) || (C2 == 4) then 2 else if (O == 0) || ((N1 == N2) && (A == B)) then 0 else if ((N1 != N2) && N1) || ((N1 == N2) && (decide (A < B) != N1)) then -1 else 1)) := ⟨_, rfl⟩
  obtain ⟨r, HRES⟩ := HRES
  rw [← HRES.out]
  go_enter Oajg.func56, Oajg.ntmps56
  go_wp2_with fail
  refine Calls.mono (HO.out _) ?_
  rintro _ w0 ⟨rfl, hq⟩
  replace hS := sf_next hS hq
  clear hq
  have hn0 := hS.2.2.1
  go_wp2_with fail
  have hlt2 : ∀ n : Nat, n < n + 1 + 1 := fun n => by omega
  go_cut [7, 8] (fun s7 s8 W => ∃ p q : Nat, s7 = .pointer (some ⟨p, 0, none⟩) ∧ s8 = .pointer (some ⟨q, 0, none⟩) ∧ p ≠ q ∧ w.heap.size < p ∧ w.heap.size < q ∧
    (W.cell? ⟨p, 0, none⟩ = some (.bool N1) ∧ W.cell? ⟨p, 1, none⟩ = some (.int .i8 C1) ∧ W.cell? ⟨p, 2, none⟩ = some (.int .i16 V1) ∧ W.cell? ⟨p, 3, none⟩ = some (.int .u64 (R1 : Int)) ∧ (∀ o, W.frozen? ⟨p, o, none⟩ = false) ∧ p < W.heap.size) ∧
    (W.cell? ⟨q, 0, none⟩ = some (.bool N2) ∧ W.cell? ⟨q, 1, none⟩ = some (.int .i8 C2) ∧ W.cell? ⟨q, 2, none⟩ = some (.int .i16 V2) ∧ W.cell? ⟨q, 3, none⟩ = some (.int .u64 (R2 : Int)) ∧ (∀ o, W.frozen? ⟨q, o, none⟩ = false) ∧ q < W.heap.size) ∧
    (W.cell? ⟨w.heap.size, 0, none⟩ = some (.int .u8 (E : Int)) ∧ W.cell? ⟨w.heap.size, 1, none⟩ = some (.int .u8 (M : Int)) ∧ w.heap.size < W.heap.size ∧ Below w.heap.size w W))
  case first =>
    go_region_held3 (fun W => W.cell? ⟨w.heap.size, 0, none⟩ = some (.int .u8 (E : Int)) ∧ W.cell? ⟨w.heap.size, 1, none⟩ = some (.int .u8 (M : Int)) ∧ w.heap.size < W.heap.size ∧ Below w.heap.size w W) ((repeat' (first | with_reducible assumption | with_reducible refine sf_drew ?_ | with_reducible refine sf_alloc ?_ _ | with_reducible refine sf_store ?_ ?_ | (simp only [World.size_alloc, World.size_drew, World.size_setCell]; omega) | omega))) ((go_at_call 74; (first | with_reducible refine Calls.mono (HA.out _) ?_ | with_reducible refine Calls.mono (HB.out _) ?_); rintro _ w1 ⟨rfl, hb⟩; have hS1 := sf_next (by with_reducible assumption) hb; have hn1 := hS1.2.2.1; have hzn := hb.size; obtain ⟨hc, hf, hz⟩ := bfacts2 hb; (try simp only [World.size_alloc, World.size_drew] at hc hf hz hzn); (try have hk0 : w0.heap.size < w1.heap.size := hz _ (by omega)); (try have hk1 : w0.heap.size + 1 < w1.heap.size := hz _ (by omega)); (try have hk2 : w0.heap.size < w1.heap.size + 1 := by omega); (try have hk3 : w0.heap.size < w1.heap.size + 1 + 1 := by omega); (try have hne0 : w0.heap.size ≠ w1.heap.size := by omega); (try have hne1 : w1.heap.size ≠ w0.heap.size := by omega); clear hb))
    all_goals go_wp2_with fail
    all_goals go_meet
    all_goals refine ⟨_, _, rfl, rfl, ?_, ?_, ?_, ⟨?_, ?_, ?_, ?_, ?_, ?_⟩, ⟨?_, ?_, ?_, ?_, ?_, ?_⟩, ?_⟩
    all_goals first
      | with_reducible assumption
      | omega
      | (simp only [World.size_alloc, World.size_drew, World.size_setCell]; omega)
      | (simp [*, go_sem]; done)
      | (intro o; simp [*, go_sem]; done)
      | skip
    all_goals trace_state
  case rest =>
    obtain ⟨p, q, rfl, rfl, hpq, hp, hq, hP, hQ, hS2⟩ := hcut
    clear hS hn0 HA HB HO hlt2
    go_wp2_with fail
    refine Calls.mono (HS.out _) ?_
    rintro _ w2 ⟨rfl, hb2⟩
    replace hS2 := sf_next hS2 hb2
    replace hP := bx4_next hP hb2
    replace hQ := bx4_next hQ hb2
    clear hb2
    go_wp2_with fail
    all_goals go_ret
    all_goals refine ⟨(show _ = _ from ret_i8b ?_), hS2.2.2.2⟩
    all_goals rw [HRES.out]
    all_goals clear hS2 hP hQ k1 k2 k3 k4 HS HRES
    all_goals first | (simp [*]; done) | (simp_all; done) | (cases N1 <;> cases N2 <;> simp_all; done) | (cases N1 <;> cases N2 <;> simp_all <;> omega)

end Go.Proofs.Ygcoaj
