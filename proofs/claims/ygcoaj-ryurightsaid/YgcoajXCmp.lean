/-
  WALK: exact.Cmp.
-/
import Derived.Test.YgcoajRat3
set_option linter.unusedVariables false
set_option linter.unusedSimpArgs false
namespace Go.Proofs.Ygcoaj
open Go.RowKit

theorem ee_next {w W W' : World} {n m : Nat} {u0 u1 u2 u3 u4 u5 x0 x1 x2 x3 x4 x5 : Value} (h : (W.cell? ⟨n, 0, none⟩ = some u0 ∧ W.cell? ⟨n, 1, none⟩ = some u1 ∧ W.cell? ⟨n, 2, none⟩ = some u2 ∧ W.cell? ⟨n, 3, none⟩ = some u3 ∧ W.cell? ⟨n, 4, none⟩ = some u4 ∧ W.cell? ⟨n, 5, none⟩ = some u5 ∧ (∀ o, W.frozen? ⟨n, o, none⟩ = false) ∧ n < W.heap.size) ∧ (W.cell? ⟨m, 0, none⟩ = some x0 ∧ W.cell? ⟨m, 1, none⟩ = some x1 ∧ W.cell? ⟨m, 2, none⟩ = some x2 ∧ W.cell? ⟨m, 3, none⟩ = some x3 ∧ W.cell? ⟨m, 4, none⟩ = some x4 ∧ W.cell? ⟨m, 5, none⟩ = some x5 ∧ (∀ o, W.frozen? ⟨m, o, none⟩ = false) ∧ m < W.heap.size) ∧ Below w.heap.size w W) (hb : Below W.heap.size W W') :
    (W'.cell? ⟨n, 0, none⟩ = some u0 ∧ W'.cell? ⟨n, 1, none⟩ = some u1 ∧ W'.cell? ⟨n, 2, none⟩ = some u2 ∧ W'.cell? ⟨n, 3, none⟩ = some u3 ∧ W'.cell? ⟨n, 4, none⟩ = some u4 ∧ W'.cell? ⟨n, 5, none⟩ = some u5 ∧ (∀ o, W'.frozen? ⟨n, o, none⟩ = false) ∧ n < W'.heap.size) ∧ (W'.cell? ⟨m, 0, none⟩ = some x0 ∧ W'.cell? ⟨m, 1, none⟩ = some x1 ∧ W'.cell? ⟨m, 2, none⟩ = some x2 ∧ W'.cell? ⟨m, 3, none⟩ = some x3 ∧ W'.cell? ⟨m, 4, none⟩ = some x4 ∧ W'.cell? ⟨m, 5, none⟩ = some x5 ∧ (∀ o, W'.frozen? ⟨m, o, none⟩ = false) ∧ m < W'.heap.size) ∧ Below w.heap.size w W' := ⟨bx6_next h.1 hb, bx6_next h.2.1 hb, below_then h.2.2 hb⟩
theorem ee_drew {w W : World} {n m : Nat} {u0 u1 u2 u3 u4 u5 x0 x1 x2 x3 x4 x5 : Value} (h : (W.cell? ⟨n, 0, none⟩ = some u0 ∧ W.cell? ⟨n, 1, none⟩ = some u1 ∧ W.cell? ⟨n, 2, none⟩ = some u2 ∧ W.cell? ⟨n, 3, none⟩ = some u3 ∧ W.cell? ⟨n, 4, none⟩ = some u4 ∧ W.cell? ⟨n, 5, none⟩ = some u5 ∧ (∀ o, W.frozen? ⟨n, o, none⟩ = false) ∧ n < W.heap.size) ∧ (W.cell? ⟨m, 0, none⟩ = some x0 ∧ W.cell? ⟨m, 1, none⟩ = some x1 ∧ W.cell? ⟨m, 2, none⟩ = some x2 ∧ W.cell? ⟨m, 3, none⟩ = some x3 ∧ W.cell? ⟨m, 4, none⟩ = some x4 ∧ W.cell? ⟨m, 5, none⟩ = some x5 ∧ (∀ o, W.frozen? ⟨m, o, none⟩ = false) ∧ m < W.heap.size) ∧ Below w.heap.size w W) :
    (W.drew.cell? ⟨n, 0, none⟩ = some u0 ∧ W.drew.cell? ⟨n, 1, none⟩ = some u1 ∧ W.drew.cell? ⟨n, 2, none⟩ = some u2 ∧ W.drew.cell? ⟨n, 3, none⟩ = some u3 ∧ W.drew.cell? ⟨n, 4, none⟩ = some u4 ∧ W.drew.cell? ⟨n, 5, none⟩ = some u5 ∧ (∀ o, W.drew.frozen? ⟨n, o, none⟩ = false) ∧ n < W.drew.heap.size) ∧ (W.drew.cell? ⟨m, 0, none⟩ = some x0 ∧ W.drew.cell? ⟨m, 1, none⟩ = some x1 ∧ W.drew.cell? ⟨m, 2, none⟩ = some x2 ∧ W.drew.cell? ⟨m, 3, none⟩ = some x3 ∧ W.drew.cell? ⟨m, 4, none⟩ = some x4 ∧ W.drew.cell? ⟨m, 5, none⟩ = some x5 ∧ (∀ o, W.drew.frozen? ⟨m, o, none⟩ = false) ∧ m < W.drew.heap.size) ∧ Below w.heap.size w W.drew := ⟨bx6_drew h.1, bx6_drew h.2.1, h.2.2.drew⟩

def rk (C : Int) (N : Bool) : Int := if C = 3 then (if N then -1 else 1) else 0
def cmpI (a b : Int) : Int := if a < b then -1 else if b < a then 1 else 0
/-- exact.Cmp's answer -/
def xCmp (C1 C2 : Int) (N1 N2 G1 G2 : Bool) (p1 q1 p2 q2 : Nat) : Int :=
  if C1 = 4 ∨ C2 = 4 then 2
  else if rk C1 N1 ≠ 0 ∨ rk C2 N2 ≠ 0 then cmpI (rk C1 N1) (rk C2 N2)
  else if adNum G1 (!G2) (p1 * q2) (p2 * q1) = 0 then 0
  else if adNeg G1 (!G2) (p1 * q2) (p2 * q1) then -1 else 1

theorem rk_range (C : Int) (N : Bool) : rk C N = -1 ∨ rk C N = 0 ∨ rk C N = 1 := by
  unfold rk; split
  · cases N <;> simp
  · simp

set_option maxRecDepth 100000 in
set_option maxHeartbeats 8000000 in
theorem exactCmp_raw (E M : Nat) (h : FOk E M) (a b : Nat) (X1 X2 p1 q1 p2 q2 : Nat) (N1 N2 G1 G2 : Bool) (C1 C2 : Int)
    (HA : Hid (∀ w, Calls Oajg.prog 63 #[.agg #[.int .u8 (E : Int), .int .u8 (M : Int)], .int .u64 (a : Int)] w fun e w' => ∃ a1 k1 c1 a2 k2 c2, e = .returned (.agg #[.int .u64 (X1 : Int), .bool N1, .int .i8 C1, .bool G1, .slice a1 k1 c1, .slice a2 k2 c2]) ∧ NatIs 2050 w' (.slice a1 k1 c1) p1 ∧ NatIs 2050 w' (.slice a2 k2 c2) q1 ∧ Below w.heap.size w w'))
    (HB : Hid (∀ w, Calls Oajg.prog 63 #[.agg #[.int .u8 (E : Int), .int .u8 (M : Int)], .int .u64 (b : Int)] w fun e w' => ∃ a1 k1 c1 a2 k2 c2, e = .returned (.agg #[.int .u64 (X2 : Int), .bool N2, .int .i8 C2, .bool G2, .slice a1 k1 c1, .slice a2 k2 c2]) ∧ NatIs 2050 w' (.slice a1 k1 c1) p2 ∧ NatIs 2050 w' (.slice a2 k2 c2) q2 ∧ Below w.heap.size w w'))
    (w : World) :
    Calls Oajg.prog 57 #[.agg #[.int .u8 (E : Int), .int .u8 (M : Int)], .int .u64 (a : Int), .int .u64 (b : Int)] w fun e w' => e = .returned (.int .i8 (xCmp C1 C2 N1 N2 G1 G2 p1 q1 p2 q2)) ∧ Below w.heap.size w w' := by
  have HO : Hid (∀ w, Calls Oajg.prog 17 #[.agg #[.int .u8 (E : Int), .int .u8 (M : Int)]] w fun e w' => e = .returned (.bool true) ∧ Below w.heap.size w w') := ok_yes h
  have hS := sf_box w E M
  have HRES : ∃ r : Int, Hid (r = xCmp C1 C2 N1 N2 G1 G2 p1 q1 p2 q2) := ⟨_, rfl⟩
  obtain ⟨r, HRES⟩ := HRES
  rw [← HRES.out]
  clear h
  go_enter Oajg.func57, Oajg.ntmps57
  go_wp2_with fail
  refine Calls.mono (HO.out _) ?_
  rintro _ w0 ⟨rfl, hq⟩
  replace hS := sf_next hS hq
  clear hq HO
  have hn0 := hS.2.2.1
  go_wp2_with fail
  have hlt2 : ∀ n : Nat, n < n + 1 + 1 := fun n => by omega
  go_cut [7, 8] (fun s7 s8 W => ∃ p q a1 k1 c1 a2 k2 c2 a3 k3 c3 a4 k4 c4, s7 = .pointer (some ⟨p, 0, none⟩) ∧ s8 = .pointer (some ⟨q, 0, none⟩) ∧ p ≠ q ∧ w.heap.size < p ∧ w.heap.size < q ∧
    (W.cell? ⟨p, 0, none⟩ = some (.int .u64 (X1 : Int)) ∧ W.cell? ⟨p, 1, none⟩ = some (.bool N1) ∧ W.cell? ⟨p, 2, none⟩ = some (.int .i8 C1) ∧ W.cell? ⟨p, 3, none⟩ = some (.bool G1) ∧ W.cell? ⟨p, 4, none⟩ = some (.slice a1 k1 c1) ∧ W.cell? ⟨p, 5, none⟩ = some (.slice a2 k2 c2) ∧ (∀ o, W.frozen? ⟨p, o, none⟩ = false) ∧ p < W.heap.size) ∧ (W.cell? ⟨q, 0, none⟩ = some (.int .u64 (X2 : Int)) ∧ W.cell? ⟨q, 1, none⟩ = some (.bool N2) ∧ W.cell? ⟨q, 2, none⟩ = some (.int .i8 C2) ∧ W.cell? ⟨q, 3, none⟩ = some (.bool G2) ∧ W.cell? ⟨q, 4, none⟩ = some (.slice a3 k3 c3) ∧ W.cell? ⟨q, 5, none⟩ = some (.slice a4 k4 c4) ∧ (∀ o, W.frozen? ⟨q, o, none⟩ = false) ∧ q < W.heap.size) ∧ (W.cell? ⟨w.heap.size, 0, none⟩ = some (.int .u8 (E : Int)) ∧ W.cell? ⟨w.heap.size, 1, none⟩ = some (.int .u8 (M : Int)) ∧ w.heap.size < W.heap.size ∧ Below w.heap.size w W) ∧
    (∃ Wb, NatIs 2050 Wb (.slice a1 k1 c1) p1 ∧ NatIs 2050 Wb (.slice a2 k2 c2) q1 ∧ NatIs 2050 Wb (.slice a3 k3 c3) p2 ∧ NatIs 2050 Wb (.slice a4 k4 c4) q2 ∧ Kp Wb W))
  case first =>
    go_region_held3 (fun W => W.cell? ⟨w.heap.size, 0, none⟩ = some (.int .u8 (E : Int)) ∧ W.cell? ⟨w.heap.size, 1, none⟩ = some (.int .u8 (M : Int)) ∧ w.heap.size < W.heap.size ∧ Below w.heap.size w W) ((repeat' (first | with_reducible assumption | with_reducible refine sf_drew ?_ | with_reducible refine sf_alloc ?_ _ | with_reducible refine sf_store ?_ ?_ | (simp only [World.size_alloc, World.size_drew, World.size_setCell]; omega) | omega))) ((go_at_call 63; first | ((with_reducible refine Calls.mono (HA.out _) ?_); rintro _ wa ⟨a1, k1, c1, a2, k2, c2, rfl, hN1, hN2, hb⟩; have hS1 := sf_next (by with_reducible assumption) hb; have hn1 := hS1.2.2.1; have hzn := hb.size; obtain ⟨hc, hf, hz⟩ := bfacts2 hb; (try simp only [World.size_alloc, World.size_drew] at hc hf hz hzn); (try have hk0 : w0.heap.size < wa.heap.size := hz _ (by omega)); (try have hk1 : w0.heap.size + 1 < wa.heap.size := hz _ (by omega)); (try have hk2 : w0.heap.size < wa.heap.size + 1 := by omega); (try have hk3 : w0.heap.size < wa.heap.size + 1 + 1 := by omega); (try have hne0 : w0.heap.size ≠ wa.heap.size := by omega); (try have hne1 : wa.heap.size ≠ w0.heap.size := by omega); have HN1 : Hid (NatIs 2050 wa (.slice a1 k1 c1) p1) := hN1; have HN2 : Hid (NatIs 2050 wa (.slice a2 k2 c2) q1) := hN2; clear hb hN1 hN2) | ((with_reducible refine Calls.mono (HB.out _) ?_); rintro _ wb ⟨a3, k3, c3, a4, k4, c4, rfl, hN3, hN4, hb⟩; have hS1 := sf_next (by with_reducible assumption) hb; have hn1 := hS1.2.2.1; have hzn := hb.size; obtain ⟨hc, hf, hz⟩ := bfacts2 hb; (try simp only [World.size_alloc, World.size_drew] at hc hf hz hzn); (try have hk0 : w0.heap.size < wb.heap.size := hz _ (by omega)); (try have hk1 : w0.heap.size + 1 < wb.heap.size := hz _ (by omega)); (try have hk2 : w0.heap.size < wb.heap.size + 1 := by omega); (try have hk3 : w0.heap.size < wb.heap.size + 1 + 1 := by omega); (try have hne0 : w0.heap.size ≠ wb.heap.size := by omega); (try have hne1 : wb.heap.size ≠ w0.heap.size := by omega); have HKK : Hid (Kp wa wb) := Kp.trans (by first | with_reducible exact Kp.refl _ | with_reducible exact (Kp.refl _).alloc _ | with_reducible exact ((Kp.refl _).alloc _).alloc _) (Kp.of hb); have HN3 : Hid (NatIs 2050 wb (.slice a3 k3 c3) p2) := hN3; have HN4 : Hid (NatIs 2050 wb (.slice a4 k4 c4) q2) := hN4; clear hb hN3 hN4)))
    all_goals go_wp2_with fail
    all_goals go_meet
    all_goals refine ⟨_, _, _, _, _, _, _, _, _, _, _, _, _, _, rfl, rfl, ?_, ?_, ?_, ⟨?_, ?_, ?_, ?_, ?_, ?_, ?_, ?_⟩, ⟨?_, ?_, ?_, ?_, ?_, ?_, ?_, ?_⟩, ?_, ⟨wb, HN1.out.kp HKK.out, HN2.out.kp HKK.out, HN3.out, HN4.out, ?_⟩⟩
    all_goals try (first
      | with_reducible assumption
      | omega
      | (simp only [World.size_alloc, World.size_drew, World.size_setCell]; omega)
      | (simp [*, go_sem]; done)
      | (intro o; simp [*, go_sem]; done))
    all_goals repeat' (first
      | with_reducible exact Kp.refl _
      | with_reducible refine Kp.alloc ?_ _
      | with_reducible refine Kp.drew ?_
      | with_reducible refine Kp.setCell (p := ⟨_, 0, none⟩) (u := .int .u64 0) ?_ (by simp [*, go_sem]; done) (not32_u64 _)
      | with_reducible refine Kp.setCell (p := ⟨_, 1, none⟩) (u := .bool false) ?_ (by simp [*, go_sem]; done) (not32_bool _)
      | with_reducible refine Kp.setCell (p := ⟨_, 2, none⟩) (u := .int .i8 0) ?_ (by simp [*, go_sem]; done) (not32_i8 _)
      | with_reducible refine Kp.setCell (p := ⟨_, 3, none⟩) (u := .bool false) ?_ (by simp [*, go_sem]; done) (not32_bool _)
      | with_reducible refine Kp.setCell (p := ⟨_, 4, none⟩) (u := .slice none 0 0) ?_ (by simp [*, go_sem]; done) (not32_slice _ _ _)
      | with_reducible refine Kp.setCell (p := ⟨_, 5, none⟩) (u := .slice none 0 0) ?_ (by simp [*, go_sem]; done) (not32_slice _ _ _))
  case rest =>
    obtain ⟨p, q, a1, k1, c1, a2, k2, c2, a3, k3, c3, a4, k4, c4, rfl, rfl, hpq, hp, hq, hP, hQ, hS2, Wb, n1, n2, n3, n4, hk⟩ := hcut
    have HN1 : Hid (NatIs 2050 Wb (.slice a1 k1 c1) p1) := n1
    have HN2 : Hid (NatIs 2050 Wb (.slice a2 k2 c2) q1) := n2
    have HN3 : Hid (NatIs 2050 Wb (.slice a3 k3 c3) p2) := n3
    have HN4 : Hid (NatIs 2050 Wb (.slice a4 k4 c4) q2) := n4
    have HK : Hid (Kp Wb wc) := hk
    have hE : (wc.cell? ⟨p, 0, none⟩ = some (.int .u64 (X1 : Int)) ∧ wc.cell? ⟨p, 1, none⟩ = some (.bool N1) ∧ wc.cell? ⟨p, 2, none⟩ = some (.int .i8 C1) ∧ wc.cell? ⟨p, 3, none⟩ = some (.bool G1) ∧ wc.cell? ⟨p, 4, none⟩ = some (.slice a1 k1 c1) ∧ wc.cell? ⟨p, 5, none⟩ = some (.slice a2 k2 c2) ∧ (∀ o, wc.frozen? ⟨p, o, none⟩ = false) ∧ p < wc.heap.size) ∧ (wc.cell? ⟨q, 0, none⟩ = some (.int .u64 (X2 : Int)) ∧ wc.cell? ⟨q, 1, none⟩ = some (.bool N2) ∧ wc.cell? ⟨q, 2, none⟩ = some (.int .i8 C2) ∧ wc.cell? ⟨q, 3, none⟩ = some (.bool G2) ∧ wc.cell? ⟨q, 4, none⟩ = some (.slice a3 k3 c3) ∧ wc.cell? ⟨q, 5, none⟩ = some (.slice a4 k4 c4) ∧ (∀ o, wc.frozen? ⟨q, o, none⟩ = false) ∧ q < wc.heap.size) ∧ Below w.heap.size w wc := ⟨hP, hQ, hS2.2.2.2⟩
    clear n1 n2 n3 n4 hk hS hn0 hlt2 HA HB hP hQ hS2
    by_cases h4 : C1 = 4 ∨ C2 = 4
    · have HR : Hid (r = 2) := by show r = 2; rw [HRES.out]; unfold xCmp; rw [if_pos h4]
      clear HRES
      by_cases h41 : C1 = 4
      · have j1 : (C1 == 4) = true := by simp [h41]
        clear h4 h41
        go_wp2_with fail
        go_ret
        exact ⟨ret_i8 HR.out.symm, hE.2.2⟩
      · have j1 : (C1 == 4) = false := by simp [h41]
        have j2 : (C2 == 4) = true := by rcases h4 with h | h <;> simp_all
        clear h4 h41
        go_wp2_with fail
        go_ret
        exact ⟨ret_i8 HR.out.symm, hE.2.2⟩
    · have j1 : (C1 == 4) = false := by simp only [beq_eq_false_iff_ne]; exact fun e => h4 (Or.inl e)
      have j2 : (C2 == 4) = false := by simp only [beq_eq_false_iff_ne]; exact fun e => h4 (Or.inr e)
      have HK1 : Hid (∀ W, Calls Oajg.prog 106 #[.agg #[(.int .u64 (X1 : Int)), (.bool N1), (.int .i8 C1), (.bool G1), (.slice a1 k1 c1), (.slice a2 k2 c2)]] W fun e w' => e = .returned (.int .i8 (rk C1 N1)) ∧ Below W.heap.size W w') := fun W => rank_ok _ N1 C1 G1 a1 a2 k1 c1 k2 c2 W
      have HK2 : Hid (∀ W, Calls Oajg.prog 106 #[.agg #[(.int .u64 (X2 : Int)), (.bool N2), (.int .i8 C2), (.bool G2), (.slice a3 k3 c3), (.slice a4 k4 c4)]] W fun e w' => e = .returned (.int .i8 (rk C2 N2)) ∧ Below W.heap.size W w') := fun W => rank_ok _ N2 C2 G2 a3 a4 k3 c3 k4 c4 W
      have HR : Hid (r = if rk C1 N1 ≠ 0 ∨ rk C2 N2 ≠ 0 then cmpI (rk C1 N1) (rk C2 N2) else if adNum G1 (!G2) (p1 * q2) (p2 * q1) = 0 then 0 else if adNeg G1 (!G2) (p1 * q2) (p2 * q1) then -1 else 1) := by show r = _; rw [HRES.out]; unfold xCmp; rw [if_neg h4]
      have g1 := rk_range C1 N1
      have g2 := rk_range C2 N2
      generalize rk C1 N1 = r1 at *
      generalize rk C2 N2 = r2 at *
      clear HRES h4
      go_wp2_with fail
      go_region_held3 (fun W => (W.cell? ⟨p, 0, none⟩ = some (.int .u64 (X1 : Int)) ∧ W.cell? ⟨p, 1, none⟩ = some (.bool N1) ∧ W.cell? ⟨p, 2, none⟩ = some (.int .i8 C1) ∧ W.cell? ⟨p, 3, none⟩ = some (.bool G1) ∧ W.cell? ⟨p, 4, none⟩ = some (.slice a1 k1 c1) ∧ W.cell? ⟨p, 5, none⟩ = some (.slice a2 k2 c2) ∧ (∀ o, W.frozen? ⟨p, o, none⟩ = false) ∧ p < W.heap.size) ∧ (W.cell? ⟨q, 0, none⟩ = some (.int .u64 (X2 : Int)) ∧ W.cell? ⟨q, 1, none⟩ = some (.bool N2) ∧ W.cell? ⟨q, 2, none⟩ = some (.int .i8 C2) ∧ W.cell? ⟨q, 3, none⟩ = some (.bool G2) ∧ W.cell? ⟨q, 4, none⟩ = some (.slice a3 k3 c3) ∧ W.cell? ⟨q, 5, none⟩ = some (.slice a4 k4 c4) ∧ (∀ o, W.frozen? ⟨q, o, none⟩ = false) ∧ q < W.heap.size) ∧ Below w.heap.size w W)
        ((repeat' (first | with_reducible assumption | with_reducible refine ee_drew ?_)))
        ((go_at_call 106; first | ((with_reducible refine Calls.mono (HK1.out _) ?_); rintro _ w1 ⟨rfl, hb⟩; have hE1 := ee_next (by with_reducible assumption) hb; have HKa : Hid (Kp Wb w1) := HK.out.drew.trans (Kp.of hb); clear hb) | ((with_reducible refine Calls.mono (HK2.out _) ?_); rintro _ w2 ⟨rfl, hb⟩; have hE2 := ee_next (by with_reducible assumption) hb; have HKb : Hid (Kp Wb w2) := HKa.out.trans (Kp.of hb); clear hb)))
      clear hE hE1 HK HKa HK1 HK2
      have hbb : Below w.heap.size w w2 := hE2.2.2
      have HBB : Hid (Below w.heap.size w w2) := hbb
      have HW3 : Hid (Kp Wb (w2.setCell ⟨q, 3, none⟩ (.bool (!G2)))) := HKb.out.setCell hE2.2.1.2.2.2.1 (not32_bool _)
      have HAD : Hid (Calls Oajg.prog 107 #[.agg #[.bool G1, .slice a1 k1 c1, .slice a2 k2 c2], .agg #[.bool (!G2), .slice a3 k3 c3, .slice a4 k4 c4]] (w2.setCell ⟨q, 3, none⟩ (.bool (!G2))) fun e w' => ∃ b1 l1 e1 b2 l2 e2,
          e = .returned (.agg #[.bool (adNeg G1 (!G2) (p1 * q2) (p2 * q1)), .slice b1 l1 e1, .slice b2 l2 e2]) ∧ NatIs 8201 w' (.slice b1 l1 e1) (adNum G1 (!G2) (p1 * q2) (p2 * q1)) ∧ NatIs 8201 w' (.slice b2 l2 e2) (q1 * q2) ∧ Below (w2.setCell ⟨q, 3, none⟩ (.bool (!G2))).heap.size (w2.setCell ⟨q, 3, none⟩ (.bool (!G2))) w') :=
        addRat_ok G1 (!G2) a1 a2 a3 a4 k1 c1 k2 c2 k3 c3 k4 c4 2050 p1 q1 p2 q2 _ (HN1.out.kp HW3.out) (HN2.out.kp HW3.out) (HN3.out.kp HW3.out) (HN4.out.kp HW3.out) (by decide)
      have HB3 : Hid (Below w.heap.size w (w2.setCell ⟨q, 3, none⟩ (.bool (!G2)))) := hbb.setCell (Nat.le_of_lt hq) _
      clear HN1 HN2 HN3 HN4 HKb HW3 hbb
      generalize adNum G1 (!G2) (p1 * q2) (p2 * q1) = nn at *
      generalize adNeg G1 (!G2) (p1 * q2) (p2 * q1) = ng at *
      by_cases hrr : r1 = 0 ∧ r2 = 0
      · obtain ⟨rfl, rfl⟩ := hrr
        clear g1 g2
        have hnil := eql_nil
        go_wp2_with fail
        refine Calls.mono HAD.out ?_
        rintro _ w4 ⟨b1, l1, e1, b2, l2, e2, rfl, hn, _, hb⟩
        have HB4 : Hid (Below w.heap.size w w4) := below_then HB3.out hb
        clear hb HB3 HAD
        by_cases hz : nn = 0
        · subst hz
          have hv := hn.of_zero
          obtain ⟨rfl, rfl, rfl⟩ : b1 = none ∧ l1 = 0 ∧ e1 = 0 := by cases hv; exact ⟨rfl, rfl, rfl⟩
          clear hv hn
          have HR2 : Hid (r = 0) := by show r = 0; rw [HR.out]; rfl
          clear HR
          go_wp2_with fail
          go_ret
          exact ⟨ret_i8 HR2.out.symm, HB4.out.alloc HB4.out.size _⟩
        · obtain ⟨l, bb, cap, _, _, _, _, _, hv, _⟩ := hn.of_pos hz
          obtain ⟨rfl, rfl, rfl⟩ : b1 = some ⟨bb, 0, none⟩ ∧ l1 = l.length ∧ e1 = cap := by cases hv; exact ⟨rfl, rfl, rfl⟩
          clear hv hn
          have HR2 : Hid (r = if ng then -1 else 1) := by show r = _; rw [HR.out, if_neg (by decide), if_neg hz]
          clear HR hz
          cases ng
          all_goals
            go_wp2_with fail
            go_ret
            exact ⟨ret_i8 HR2.out.symm, HB4.out.alloc HB4.out.size _⟩
      · have HR2 : Hid (r = cmpI r1 r2) := by show r = _; rw [HR.out, if_pos (by omega)]
        clear HR HAD HB3
        rcases g1 with rfl | rfl | rfl <;> rcases g2 with rfl | rfl | rfl
        all_goals first
          | exact absurd ⟨rfl, rfl⟩ hrr
          | (clear hrr
             go_wp2_with fail
             go_ret
             exact ⟨ret_i8 HR2.out.symm, HBB.out⟩)

end Go.Proofs.Ygcoaj
