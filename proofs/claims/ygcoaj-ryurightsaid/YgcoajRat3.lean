/-
  WALKS: exact.rank, exact.addRat.
-/
import Derived.Test.YgcoajRat2
set_option linter.unusedVariables false
set_option linter.unusedSimpArgs false
namespace Go.Proofs.Ygcoaj
open Go.RowKit

theorem dd_next {w W W' : World} {n m : Nat} {u0 u1 u2 x0 x1 x2 : Value} (h : (W.cell? ⟨n, 0, none⟩ = some u0 ∧ W.cell? ⟨n, 1, none⟩ = some u1 ∧ W.cell? ⟨n, 2, none⟩ = some u2 ∧ (∀ o, W.frozen? ⟨n, o, none⟩ = false) ∧ n < W.heap.size) ∧ (W.cell? ⟨m, 0, none⟩ = some x0 ∧ W.cell? ⟨m, 1, none⟩ = some x1 ∧ W.cell? ⟨m, 2, none⟩ = some x2 ∧ (∀ o, W.frozen? ⟨m, o, none⟩ = false) ∧ m < W.heap.size) ∧ Below w.heap.size w W) (hb : Below W.heap.size W W') :
    (W'.cell? ⟨n, 0, none⟩ = some u0 ∧ W'.cell? ⟨n, 1, none⟩ = some u1 ∧ W'.cell? ⟨n, 2, none⟩ = some u2 ∧ (∀ o, W'.frozen? ⟨n, o, none⟩ = false) ∧ n < W'.heap.size) ∧ (W'.cell? ⟨m, 0, none⟩ = some x0 ∧ W'.cell? ⟨m, 1, none⟩ = some x1 ∧ W'.cell? ⟨m, 2, none⟩ = some x2 ∧ (∀ o, W'.frozen? ⟨m, o, none⟩ = false) ∧ m < W'.heap.size) ∧ Below w.heap.size w W' := ⟨bx3_next h.1 hb, bx3_next h.2.1 hb, below_then h.2.2 hb⟩
theorem dd_drew {w W : World} {n m : Nat} {u0 u1 u2 x0 x1 x2 : Value} (h : (W.cell? ⟨n, 0, none⟩ = some u0 ∧ W.cell? ⟨n, 1, none⟩ = some u1 ∧ W.cell? ⟨n, 2, none⟩ = some u2 ∧ (∀ o, W.frozen? ⟨n, o, none⟩ = false) ∧ n < W.heap.size) ∧ (W.cell? ⟨m, 0, none⟩ = some x0 ∧ W.cell? ⟨m, 1, none⟩ = some x1 ∧ W.cell? ⟨m, 2, none⟩ = some x2 ∧ (∀ o, W.frozen? ⟨m, o, none⟩ = false) ∧ m < W.heap.size) ∧ Below w.heap.size w W) :
    (W.drew.cell? ⟨n, 0, none⟩ = some u0 ∧ W.drew.cell? ⟨n, 1, none⟩ = some u1 ∧ W.drew.cell? ⟨n, 2, none⟩ = some u2 ∧ (∀ o, W.drew.frozen? ⟨n, o, none⟩ = false) ∧ n < W.drew.heap.size) ∧ (W.drew.cell? ⟨m, 0, none⟩ = some x0 ∧ W.drew.cell? ⟨m, 1, none⟩ = some x1 ∧ W.drew.cell? ⟨m, 2, none⟩ = some x2 ∧ (∀ o, W.drew.frozen? ⟨m, o, none⟩ = false) ∧ m < W.drew.heap.size) ∧ Below w.heap.size w W.drew := ⟨bx3_drew h.1, bx3_drew h.2.1, h.2.2.drew⟩
theorem dd_store {w W : World} {n m : Nat} {u0 u1 u2 x0 x1 x2 : Value} (h : (W.cell? ⟨n, 0, none⟩ = some u0 ∧ W.cell? ⟨n, 1, none⟩ = some u1 ∧ W.cell? ⟨n, 2, none⟩ = some u2 ∧ (∀ o, W.frozen? ⟨n, o, none⟩ = false) ∧ n < W.heap.size) ∧ (W.cell? ⟨m, 0, none⟩ = some x0 ∧ W.cell? ⟨m, 1, none⟩ = some x1 ∧ W.cell? ⟨m, 2, none⟩ = some x2 ∧ (∀ o, W.frozen? ⟨m, o, none⟩ = false) ∧ m < W.heap.size) ∧ Below w.heap.size w W) {p : Addr} {u : Value} (hp : w.heap.size ≤ p.block ∧ n ≠ p.block ∧ m ≠ p.block) :
    ((W.setCell p u).cell? ⟨n, 0, none⟩ = some u0 ∧ (W.setCell p u).cell? ⟨n, 1, none⟩ = some u1 ∧ (W.setCell p u).cell? ⟨n, 2, none⟩ = some u2 ∧ (∀ o, (W.setCell p u).frozen? ⟨n, o, none⟩ = false) ∧ n < (W.setCell p u).heap.size) ∧ ((W.setCell p u).cell? ⟨m, 0, none⟩ = some x0 ∧ (W.setCell p u).cell? ⟨m, 1, none⟩ = some x1 ∧ (W.setCell p u).cell? ⟨m, 2, none⟩ = some x2 ∧ (∀ o, (W.setCell p u).frozen? ⟨m, o, none⟩ = false) ∧ m < (W.setCell p u).heap.size) ∧ Below w.heap.size w (W.setCell p u) := ⟨bx3_far h.1 hp.2.1, bx3_far h.2.1 hp.2.2, h.2.2.setCell hp.1 u⟩
theorem dd_alloc {w W : World} {n m : Nat} {u0 u1 u2 x0 x1 x2 : Value} (h : (W.cell? ⟨n, 0, none⟩ = some u0 ∧ W.cell? ⟨n, 1, none⟩ = some u1 ∧ W.cell? ⟨n, 2, none⟩ = some u2 ∧ (∀ o, W.frozen? ⟨n, o, none⟩ = false) ∧ n < W.heap.size) ∧ (W.cell? ⟨m, 0, none⟩ = some x0 ∧ W.cell? ⟨m, 1, none⟩ = some x1 ∧ W.cell? ⟨m, 2, none⟩ = some x2 ∧ (∀ o, W.frozen? ⟨m, o, none⟩ = false) ∧ m < W.heap.size) ∧ Below w.heap.size w W) (ob : Obj) :
    ((W.alloc ob).cell? ⟨n, 0, none⟩ = some u0 ∧ (W.alloc ob).cell? ⟨n, 1, none⟩ = some u1 ∧ (W.alloc ob).cell? ⟨n, 2, none⟩ = some u2 ∧ (∀ o, (W.alloc ob).frozen? ⟨n, o, none⟩ = false) ∧ n < (W.alloc ob).heap.size) ∧ ((W.alloc ob).cell? ⟨m, 0, none⟩ = some x0 ∧ (W.alloc ob).cell? ⟨m, 1, none⟩ = some x1 ∧ (W.alloc ob).cell? ⟨m, 2, none⟩ = some x2 ∧ (∀ o, (W.alloc ob).frozen? ⟨m, o, none⟩ = false) ∧ m < (W.alloc ob).heap.size) ∧ Below w.heap.size w (W.alloc ob) := dd_next h ((Below.refl _ _).alloc (Nat.le_refl _) ob)

set_option maxRecDepth 100000 in
set_option maxHeartbeats 2000000 in
theorem rank_ok (X : Int) (N : Bool) (C : Int) (N2 : Bool) (a1 a2 : Option Addr) (k1 c1 k2 c2 : Nat) (w : World) :
    Calls Oajg.prog 106 #[.agg #[.int .u64 X, .bool N, .int .i8 C, .bool N2, .slice a1 k1 c1, .slice a2 k2 c2]] w fun e w' => e = .returned (.int .i8 (if C = 3 then (if N then -1 else 1) else 0)) ∧ Below w.heap.size w w' := by
  have HB : Hid (Below w.heap.size w (w.alloc (.cells #[.int .u64 X, .bool N, .int .i8 C, .bool N2, .slice a1 k1 c1, .slice a2 k2 c2] 98))) := (Below.refl _ _).alloc (Nat.le_refl _) _
  by_cases hC : C = 3
  · have j : (C != 3) = false := by simp [hC]
    rw [if_pos hC]
    clear hC
    cases N
    all_goals
      go_enter Oajg.func106, Oajg.ntmps106
      go_wp2_with fail
      go_ret
      exact ⟨rfl, HB.out⟩
  · have j : (C != 3) = true := by simp [hC]
    rw [if_neg hC]
    clear hC
    go_enter Oajg.func106, Oajg.ntmps106
    go_wp2_with fail
    go_ret
    exact ⟨rfl, HB.out⟩

def adNeg (N1 N2 : Bool) (x y : Nat) : Bool := if N1 = N2 then N1 else if y ≤ x then N1 else N2
def adNum (N1 N2 : Bool) (x y : Nat) : Nat := if N1 = N2 then x + y else if y ≤ x then x - y else y - x

set_option maxRecDepth 100000 in
set_option maxHeartbeats 4000000 in
theorem addRat_same (N1 N2 : Bool) (a1 a2 a3 a4 : Option Addr) (k1 c1 k2 c2 k3 c3 k4 c4 B n1 d1 n2 d2 : Nat) (w : World)
    (h1 : NatIs B w (.slice a1 k1 c1) n1) (h2 : NatIs B w (.slice a2 k2 c2) d1) (h3 : NatIs B w (.slice a3 k3 c3) n2) (h4 : NatIs B w (.slice a4 k4 c4) d2) (hB : B ≤ 100000000) (hs : N1 = N2) :
    Calls Oajg.prog 107 #[.agg #[.bool N1, .slice a1 k1 c1, .slice a2 k2 c2], .agg #[.bool N2, .slice a3 k3 c3, .slice a4 k4 c4]] w fun e w' => ∃ b1 l1 e1 b2 l2 e2,
      e = .returned (.agg #[.bool N1, .slice b1 l1 e1, .slice b2 l2 e2]) ∧ NatIs (4 * B + 1) w' (.slice b1 l1 e1) (n1 * d2 + n2 * d1) ∧ NatIs (4 * B + 1) w' (.slice b2 l2 e2) (d1 * d2) ∧ Below w.heap.size w w' := by
  have j : (N1 == N2) = true := by simp [hs]
  clear hs
  have HM1 : Hid (∀ W, ((W.cell? ⟨w.heap.size, 0, none⟩ = some (.bool N1) ∧ W.cell? ⟨w.heap.size, 1, none⟩ = some (.slice a1 k1 c1) ∧ W.cell? ⟨w.heap.size, 2, none⟩ = some (.slice a2 k2 c2) ∧ (∀ o, W.frozen? ⟨w.heap.size, o, none⟩ = false) ∧ w.heap.size < W.heap.size) ∧ (W.cell? ⟨(w.heap.size + 1), 0, none⟩ = some (.bool N2) ∧ W.cell? ⟨(w.heap.size + 1), 1, none⟩ = some (.slice a3 k3 c3) ∧ W.cell? ⟨(w.heap.size + 1), 2, none⟩ = some (.slice a4 k4 c4) ∧ (∀ o, W.frozen? ⟨(w.heap.size + 1), o, none⟩ = false) ∧ (w.heap.size + 1) < W.heap.size) ∧ Below w.heap.size w W) → Calls Oajg.prog 62 #[.slice a1 k1 c1, .slice a4 k4 c4] W fun e w' => ∃ ad k c, e = .returned (.slice ad k c) ∧ NatIs (B + B) w' (.slice ad k c) (n1 * d2) ∧ Below W.heap.size W w') := fun W hW => shaped (mul_any B B _ _ n1 d2 W (h1.kp (Kp.of hW.2.2)) (h4.kp (Kp.of hW.2.2)) (by omega) (by omega))
  have HM2 : Hid (∀ W, ((W.cell? ⟨w.heap.size, 0, none⟩ = some (.bool N1) ∧ W.cell? ⟨w.heap.size, 1, none⟩ = some (.slice a1 k1 c1) ∧ W.cell? ⟨w.heap.size, 2, none⟩ = some (.slice a2 k2 c2) ∧ (∀ o, W.frozen? ⟨w.heap.size, o, none⟩ = false) ∧ w.heap.size < W.heap.size) ∧ (W.cell? ⟨(w.heap.size + 1), 0, none⟩ = some (.bool N2) ∧ W.cell? ⟨(w.heap.size + 1), 1, none⟩ = some (.slice a3 k3 c3) ∧ W.cell? ⟨(w.heap.size + 1), 2, none⟩ = some (.slice a4 k4 c4) ∧ (∀ o, W.frozen? ⟨(w.heap.size + 1), o, none⟩ = false) ∧ (w.heap.size + 1) < W.heap.size) ∧ Below w.heap.size w W) → Calls Oajg.prog 62 #[.slice a3 k3 c3, .slice a2 k2 c2] W fun e w' => ∃ ad k c, e = .returned (.slice ad k c) ∧ NatIs (B + B) w' (.slice ad k c) (n2 * d1) ∧ Below W.heap.size W w') := fun W hW => shaped (mul_any B B _ _ n2 d1 W (h3.kp (Kp.of hW.2.2)) (h2.kp (Kp.of hW.2.2)) (by omega) (by omega))
  have HM3 : Hid (∀ W, ((W.cell? ⟨w.heap.size, 0, none⟩ = some (.bool N1) ∧ W.cell? ⟨w.heap.size, 1, none⟩ = some (.slice a1 k1 c1) ∧ W.cell? ⟨w.heap.size, 2, none⟩ = some (.slice a2 k2 c2) ∧ (∀ o, W.frozen? ⟨w.heap.size, o, none⟩ = false) ∧ w.heap.size < W.heap.size) ∧ (W.cell? ⟨(w.heap.size + 1), 0, none⟩ = some (.bool N2) ∧ W.cell? ⟨(w.heap.size + 1), 1, none⟩ = some (.slice a3 k3 c3) ∧ W.cell? ⟨(w.heap.size + 1), 2, none⟩ = some (.slice a4 k4 c4) ∧ (∀ o, W.frozen? ⟨(w.heap.size + 1), o, none⟩ = false) ∧ (w.heap.size + 1) < W.heap.size) ∧ Below w.heap.size w W) → Calls Oajg.prog 62 #[.slice a2 k2 c2, .slice a4 k4 c4] W fun e w' => ∃ ad k c, e = .returned (.slice ad k c) ∧ NatIs (B + B) w' (.slice ad k c) (d1 * d2) ∧ Below W.heap.size W w') := fun W hW => shaped (mul_any B B _ _ d1 d2 W (h2.kp (Kp.of hW.2.2)) (h4.kp (Kp.of hW.2.2)) (by omega) (by omega))
  clear h1 h2 h3 h4
  have hQ : ((((w.alloc (.cells #[.bool N1, .slice a1 k1 c1, .slice a2 k2 c2] 48)).alloc (.cells #[.bool N2, .slice a3 k3 c3, .slice a4 k4 c4] 48)).alloc (.cells #[.bool false, .slice none 0 0, .slice none 0 0] 48)).cell? ⟨w.heap.size, 0, none⟩ = some (.bool N1) ∧ (((w.alloc (.cells #[.bool N1, .slice a1 k1 c1, .slice a2 k2 c2] 48)).alloc (.cells #[.bool N2, .slice a3 k3 c3, .slice a4 k4 c4] 48)).alloc (.cells #[.bool false, .slice none 0 0, .slice none 0 0] 48)).cell? ⟨w.heap.size, 1, none⟩ = some (.slice a1 k1 c1) ∧ (((w.alloc (.cells #[.bool N1, .slice a1 k1 c1, .slice a2 k2 c2] 48)).alloc (.cells #[.bool N2, .slice a3 k3 c3, .slice a4 k4 c4] 48)).alloc (.cells #[.bool false, .slice none 0 0, .slice none 0 0] 48)).cell? ⟨w.heap.size, 2, none⟩ = some (.slice a2 k2 c2) ∧ (∀ o, (((w.alloc (.cells #[.bool N1, .slice a1 k1 c1, .slice a2 k2 c2] 48)).alloc (.cells #[.bool N2, .slice a3 k3 c3, .slice a4 k4 c4] 48)).alloc (.cells #[.bool false, .slice none 0 0, .slice none 0 0] 48)).frozen? ⟨w.heap.size, o, none⟩ = false) ∧ w.heap.size < (((w.alloc (.cells #[.bool N1, .slice a1 k1 c1, .slice a2 k2 c2] 48)).alloc (.cells #[.bool N2, .slice a3 k3 c3, .slice a4 k4 c4] 48)).alloc (.cells #[.bool false, .slice none 0 0, .slice none 0 0] 48)).heap.size) ∧ ((((w.alloc (.cells #[.bool N1, .slice a1 k1 c1, .slice a2 k2 c2] 48)).alloc (.cells #[.bool N2, .slice a3 k3 c3, .slice a4 k4 c4] 48)).alloc (.cells #[.bool false, .slice none 0 0, .slice none 0 0] 48)).cell? ⟨(w.heap.size + 1), 0, none⟩ = some (.bool N2) ∧ (((w.alloc (.cells #[.bool N1, .slice a1 k1 c1, .slice a2 k2 c2] 48)).alloc (.cells #[.bool N2, .slice a3 k3 c3, .slice a4 k4 c4] 48)).alloc (.cells #[.bool false, .slice none 0 0, .slice none 0 0] 48)).cell? ⟨(w.heap.size + 1), 1, none⟩ = some (.slice a3 k3 c3) ∧ (((w.alloc (.cells #[.bool N1, .slice a1 k1 c1, .slice a2 k2 c2] 48)).alloc (.cells #[.bool N2, .slice a3 k3 c3, .slice a4 k4 c4] 48)).alloc (.cells #[.bool false, .slice none 0 0, .slice none 0 0] 48)).cell? ⟨(w.heap.size + 1), 2, none⟩ = some (.slice a4 k4 c4) ∧ (∀ o, (((w.alloc (.cells #[.bool N1, .slice a1 k1 c1, .slice a2 k2 c2] 48)).alloc (.cells #[.bool N2, .slice a3 k3 c3, .slice a4 k4 c4] 48)).alloc (.cells #[.bool false, .slice none 0 0, .slice none 0 0] 48)).frozen? ⟨(w.heap.size + 1), o, none⟩ = false) ∧ (w.heap.size + 1) < (((w.alloc (.cells #[.bool N1, .slice a1 k1 c1, .slice a2 k2 c2] 48)).alloc (.cells #[.bool N2, .slice a3 k3 c3, .slice a4 k4 c4] 48)).alloc (.cells #[.bool false, .slice none 0 0, .slice none 0 0] 48)).heap.size) ∧ Below w.heap.size w (((w.alloc (.cells #[.bool N1, .slice a1 k1 c1, .slice a2 k2 c2] 48)).alloc (.cells #[.bool N2, .slice a3 k3 c3, .slice a4 k4 c4] 48)).alloc (.cells #[.bool false, .slice none 0 0, .slice none 0 0] 48)) :=
    dd_alloc ⟨bx3_alloc (bx3_made w (m := w.heap.size) _ _ _ 48 rfl) _, bx3_made (w.alloc _) (m := w.heap.size + 1) _ _ _ 48 (by simp), ((Below.refl _ _).alloc (Nat.le_refl _) _).alloc (by simp) _⟩ _
  have hR := bx3_made ((w.alloc (.cells #[.bool N1, .slice a1 k1 c1, .slice a2 k2 c2] 48)).alloc (.cells #[.bool N2, .slice a3 k3 c3, .slice a4 k4 c4] 48)) (m := w.heap.size + 1 + 1) (.bool false) (.slice none 0 0) (.slice none 0 0) 48 (by simp)
  go_enter Oajg.func107, Oajg.ntmps107
  go_wp2_with fail
  go_region_held3 (fun W => (W.cell? ⟨w.heap.size, 0, none⟩ = some (.bool N1) ∧ W.cell? ⟨w.heap.size, 1, none⟩ = some (.slice a1 k1 c1) ∧ W.cell? ⟨w.heap.size, 2, none⟩ = some (.slice a2 k2 c2) ∧ (∀ o, W.frozen? ⟨w.heap.size, o, none⟩ = false) ∧ w.heap.size < W.heap.size) ∧ (W.cell? ⟨(w.heap.size + 1), 0, none⟩ = some (.bool N2) ∧ W.cell? ⟨(w.heap.size + 1), 1, none⟩ = some (.slice a3 k3 c3) ∧ W.cell? ⟨(w.heap.size + 1), 2, none⟩ = some (.slice a4 k4 c4) ∧ (∀ o, W.frozen? ⟨(w.heap.size + 1), o, none⟩ = false) ∧ (w.heap.size + 1) < W.heap.size) ∧ Below w.heap.size w W)
    ((repeat' (first | with_reducible assumption | with_reducible refine dd_drew ?_)))
    ((go_at_call 62; first | ((with_reducible refine Calls.mono (HM1.out _ ?hh) ?_); (case hh => with_reducible assumption); rintro _ w1 ⟨b1, l1, e1, rfl, hN, hb⟩; have hQ1 := dd_next (by with_reducible assumption) hb; have hR1 := bx3_next (bx3_drew hR) hb; have HX1 : Hid (NatIs (B + B) w1 (.slice b1 l1 e1) (n1 * d2)) := hN; clear hb hN) | ((with_reducible refine Calls.mono (HM2.out _ ?hh) ?_); (case hh => with_reducible assumption); rintro _ w2 ⟨b2, l2, e2, rfl, hN, hb⟩; have hQ2 := dd_next (by with_reducible assumption) hb; have hR2 := bx3_next hR1 hb; have HX2 : Hid (NatIs (B + B) w2 (.slice b1 l1 e1) (n1 * d2)) := HX1.out.kp (Kp.of hb); have HY2 : Hid (NatIs (B + B) w2 (.slice b2 l2 e2) (n2 * d1)) := hN; clear hb hN)))
  clear hQ hR hQ1 hR1 HX1
  go_wp2_with fail
  refine Calls.mono (HM3.out _ hQ2) ?_
  rintro _ w3 ⟨b3, l3, e3, rfl, hN, hb⟩
  have hQ3 := dd_next hQ2 hb
  have hR3 := bx3_next hR2 hb
  have HX3 : Hid (NatIs (B + B) w3 (.slice b1 l1 e1) (n1 * d2)) := HX2.out.kp (Kp.of hb)
  have HY3 : Hid (NatIs (B + B) w3 (.slice b2 l2 e2) (n2 * d1)) := HY2.out.kp (Kp.of hb)
  have HZ3 : Hid (NatIs (B + B) w3 (.slice b3 l3 e3) (d1 * d2)) := hN
  clear hb hN hQ2 hR2 HX2 HY2 HM1 HM2 HM3
  have HA : Hid (Calls Oajg.prog 155 #[.slice b1 l1 e1, .slice b2 l2 e2] w3.drew fun e w' => ∃ ad k c, e = .returned (.slice ad k c) ∧ NatIs (B + B + (B + B) + 1) w' (.slice ad k c) (n1 * d2 + n2 * d1) ∧ Below w3.drew.heap.size w3.drew w') := shaped (add_any (B + B) (B + B) _ _ (n1 * d2) (n2 * d1) w3.drew (HX3.out.kp (Kp.refl _).drew) (HY3.out.kp (Kp.refl _).drew) (by omega) (by omega))
  clear HX3 HY3
  go_wp2_with fail
  go_region_held3 (fun W => (W.cell? ⟨w.heap.size, 0, none⟩ = some (.bool N1) ∧ W.cell? ⟨w.heap.size, 1, none⟩ = some (.slice a1 k1 c1) ∧ W.cell? ⟨w.heap.size, 2, none⟩ = some (.slice a2 k2 c2) ∧ (∀ o, W.frozen? ⟨w.heap.size, o, none⟩ = false) ∧ w.heap.size < W.heap.size) ∧ (W.cell? ⟨(w.heap.size + 1), 0, none⟩ = some (.bool N2) ∧ W.cell? ⟨(w.heap.size + 1), 1, none⟩ = some (.slice a3 k3 c3) ∧ W.cell? ⟨(w.heap.size + 1), 2, none⟩ = some (.slice a4 k4 c4) ∧ (∀ o, W.frozen? ⟨(w.heap.size + 1), o, none⟩ = false) ∧ (w.heap.size + 1) < W.heap.size) ∧ Below w.heap.size w W)
    ((repeat' (first | with_reducible assumption | with_reducible refine dd_drew ?_ | with_reducible refine dd_store ?_ ?_ | (simp only [World.size_alloc, World.size_drew, World.size_setCell]; omega) | omega)))
    ((go_at_call 155; refine Calls.mono HA.out ?_; rintro _ w4 ⟨b4, l4, e4, rfl, hN, hb⟩; have hQ4 := dd_next (by with_reducible assumption) hb; have hR4 := bx3_next (bx3_drew hR3) hb; have HN4 : Hid (NatIs (B + B + (B + B) + 1) w4 (.slice b4 l4 e4) (n1 * d2 + n2 * d1)) := hN; have HZ4 : Hid (NatIs (B + B) w4 (.slice b3 l3 e3) (d1 * d2)) := HZ3.out.kp ((Kp.refl _).drew.trans (Kp.of hb)); clear hb hN))
  go_wp2_with fail
  have hkp := store3 hR4 (not32_bool _) (not32_slice _ _ _) (not32_slice _ _ _) (.bool N1) (.slice b4 l4 e4) (.slice b3 l3 e3)
  refine bodyPost_ret (v := .agg #[.bool N1, .slice b4 l4 e4, .slice b3 l3 e3]) (by simp [results, Oajg.results107, go_sem, hR4]) rfl ⟨_, _, _, _, _, _, rfl, (HN4.out.kp hkp).mono (by omega), (HZ4.out.kp hkp).mono (by omega), ?_⟩
  exact ((hQ4.2.2.setCell (Nat.le_add_right _ 2) _).setCell (Nat.le_add_right _ 2) _).setCell (Nat.le_add_right _ 2) _

set_option maxRecDepth 100000 in
set_option maxHeartbeats 4000000 in
theorem addRat_ge (N1 N2 : Bool) (a1 a2 a3 a4 : Option Addr) (k1 c1 k2 c2 k3 c3 k4 c4 B n1 d1 n2 d2 : Nat) (w : World)
    (h1 : NatIs B w (.slice a1 k1 c1) n1) (h2 : NatIs B w (.slice a2 k2 c2) d1) (h3 : NatIs B w (.slice a3 k3 c3) n2) (h4 : NatIs B w (.slice a4 k4 c4) d2) (hB : B ≤ 100000000) (hs : N1 ≠ N2) (hle : n2 * d1 ≤ n1 * d2) :
    Calls Oajg.prog 107 #[.agg #[.bool N1, .slice a1 k1 c1, .slice a2 k2 c2], .agg #[.bool N2, .slice a3 k3 c3, .slice a4 k4 c4]] w fun e w' => ∃ b1 l1 e1 b2 l2 e2,
      e = .returned (.agg #[.bool N1, .slice b1 l1 e1, .slice b2 l2 e2]) ∧ NatIs (4 * B + 1) w' (.slice b1 l1 e1) (n1 * d2 - n2 * d1) ∧ NatIs (4 * B + 1) w' (.slice b2 l2 e2) (d1 * d2) ∧ Below w.heap.size w w' := by
  have j : (N1 == N2) = false := by simp [hs]
  clear hs
  have HM1 : Hid (∀ W, ((W.cell? ⟨w.heap.size, 0, none⟩ = some (.bool N1) ∧ W.cell? ⟨w.heap.size, 1, none⟩ = some (.slice a1 k1 c1) ∧ W.cell? ⟨w.heap.size, 2, none⟩ = some (.slice a2 k2 c2) ∧ (∀ o, W.frozen? ⟨w.heap.size, o, none⟩ = false) ∧ w.heap.size < W.heap.size) ∧ (W.cell? ⟨(w.heap.size + 1), 0, none⟩ = some (.bool N2) ∧ W.cell? ⟨(w.heap.size + 1), 1, none⟩ = some (.slice a3 k3 c3) ∧ W.cell? ⟨(w.heap.size + 1), 2, none⟩ = some (.slice a4 k4 c4) ∧ (∀ o, W.frozen? ⟨(w.heap.size + 1), o, none⟩ = false) ∧ (w.heap.size + 1) < W.heap.size) ∧ Below w.heap.size w W) → Calls Oajg.prog 62 #[.slice a1 k1 c1, .slice a4 k4 c4] W fun e w' => ∃ ad k c, e = .returned (.slice ad k c) ∧ NatIs (B + B) w' (.slice ad k c) (n1 * d2) ∧ Below W.heap.size W w') := fun W hW => shaped (mul_any B B _ _ n1 d2 W (h1.kp (Kp.of hW.2.2)) (h4.kp (Kp.of hW.2.2)) (by omega) (by omega))
  have HM2 : Hid (∀ W, ((W.cell? ⟨w.heap.size, 0, none⟩ = some (.bool N1) ∧ W.cell? ⟨w.heap.size, 1, none⟩ = some (.slice a1 k1 c1) ∧ W.cell? ⟨w.heap.size, 2, none⟩ = some (.slice a2 k2 c2) ∧ (∀ o, W.frozen? ⟨w.heap.size, o, none⟩ = false) ∧ w.heap.size < W.heap.size) ∧ (W.cell? ⟨(w.heap.size + 1), 0, none⟩ = some (.bool N2) ∧ W.cell? ⟨(w.heap.size + 1), 1, none⟩ = some (.slice a3 k3 c3) ∧ W.cell? ⟨(w.heap.size + 1), 2, none⟩ = some (.slice a4 k4 c4) ∧ (∀ o, W.frozen? ⟨(w.heap.size + 1), o, none⟩ = false) ∧ (w.heap.size + 1) < W.heap.size) ∧ Below w.heap.size w W) → Calls Oajg.prog 62 #[.slice a3 k3 c3, .slice a2 k2 c2] W fun e w' => ∃ ad k c, e = .returned (.slice ad k c) ∧ NatIs (B + B) w' (.slice ad k c) (n2 * d1) ∧ Below W.heap.size W w') := fun W hW => shaped (mul_any B B _ _ n2 d1 W (h3.kp (Kp.of hW.2.2)) (h2.kp (Kp.of hW.2.2)) (by omega) (by omega))
  have HM3 : Hid (∀ W, ((W.cell? ⟨w.heap.size, 0, none⟩ = some (.bool N1) ∧ W.cell? ⟨w.heap.size, 1, none⟩ = some (.slice a1 k1 c1) ∧ W.cell? ⟨w.heap.size, 2, none⟩ = some (.slice a2 k2 c2) ∧ (∀ o, W.frozen? ⟨w.heap.size, o, none⟩ = false) ∧ w.heap.size < W.heap.size) ∧ (W.cell? ⟨(w.heap.size + 1), 0, none⟩ = some (.bool N2) ∧ W.cell? ⟨(w.heap.size + 1), 1, none⟩ = some (.slice a3 k3 c3) ∧ W.cell? ⟨(w.heap.size + 1), 2, none⟩ = some (.slice a4 k4 c4) ∧ (∀ o, W.frozen? ⟨(w.heap.size + 1), o, none⟩ = false) ∧ (w.heap.size + 1) < W.heap.size) ∧ Below w.heap.size w W) → Calls Oajg.prog 62 #[.slice a2 k2 c2, .slice a4 k4 c4] W fun e w' => ∃ ad k c, e = .returned (.slice ad k c) ∧ NatIs (B + B) w' (.slice ad k c) (d1 * d2) ∧ Below W.heap.size W w') := fun W hW => shaped (mul_any B B _ _ d1 d2 W (h2.kp (Kp.of hW.2.2)) (h4.kp (Kp.of hW.2.2)) (by omega) (by omega))
  clear h1 h2 h3 h4
  have hQ : ((((w.alloc (.cells #[.bool N1, .slice a1 k1 c1, .slice a2 k2 c2] 48)).alloc (.cells #[.bool N2, .slice a3 k3 c3, .slice a4 k4 c4] 48)).alloc (.cells #[.bool false, .slice none 0 0, .slice none 0 0] 48)).cell? ⟨w.heap.size, 0, none⟩ = some (.bool N1) ∧ (((w.alloc (.cells #[.bool N1, .slice a1 k1 c1, .slice a2 k2 c2] 48)).alloc (.cells #[.bool N2, .slice a3 k3 c3, .slice a4 k4 c4] 48)).alloc (.cells #[.bool false, .slice none 0 0, .slice none 0 0] 48)).cell? ⟨w.heap.size, 1, none⟩ = some (.slice a1 k1 c1) ∧ (((w.alloc (.cells #[.bool N1, .slice a1 k1 c1, .slice a2 k2 c2] 48)).alloc (.cells #[.bool N2, .slice a3 k3 c3, .slice a4 k4 c4] 48)).alloc (.cells #[.bool false, .slice none 0 0, .slice none 0 0] 48)).cell? ⟨w.heap.size, 2, none⟩ = some (.slice a2 k2 c2) ∧ (∀ o, (((w.alloc (.cells #[.bool N1, .slice a1 k1 c1, .slice a2 k2 c2] 48)).alloc (.cells #[.bool N2, .slice a3 k3 c3, .slice a4 k4 c4] 48)).alloc (.cells #[.bool false, .slice none 0 0, .slice none 0 0] 48)).frozen? ⟨w.heap.size, o, none⟩ = false) ∧ w.heap.size < (((w.alloc (.cells #[.bool N1, .slice a1 k1 c1, .slice a2 k2 c2] 48)).alloc (.cells #[.bool N2, .slice a3 k3 c3, .slice a4 k4 c4] 48)).alloc (.cells #[.bool false, .slice none 0 0, .slice none 0 0] 48)).heap.size) ∧ ((((w.alloc (.cells #[.bool N1, .slice a1 k1 c1, .slice a2 k2 c2] 48)).alloc (.cells #[.bool N2, .slice a3 k3 c3, .slice a4 k4 c4] 48)).alloc (.cells #[.bool false, .slice none 0 0, .slice none 0 0] 48)).cell? ⟨(w.heap.size + 1), 0, none⟩ = some (.bool N2) ∧ (((w.alloc (.cells #[.bool N1, .slice a1 k1 c1, .slice a2 k2 c2] 48)).alloc (.cells #[.bool N2, .slice a3 k3 c3, .slice a4 k4 c4] 48)).alloc (.cells #[.bool false, .slice none 0 0, .slice none 0 0] 48)).cell? ⟨(w.heap.size + 1), 1, none⟩ = some (.slice a3 k3 c3) ∧ (((w.alloc (.cells #[.bool N1, .slice a1 k1 c1, .slice a2 k2 c2] 48)).alloc (.cells #[.bool N2, .slice a3 k3 c3, .slice a4 k4 c4] 48)).alloc (.cells #[.bool false, .slice none 0 0, .slice none 0 0] 48)).cell? ⟨(w.heap.size + 1), 2, none⟩ = some (.slice a4 k4 c4) ∧ (∀ o, (((w.alloc (.cells #[.bool N1, .slice a1 k1 c1, .slice a2 k2 c2] 48)).alloc (.cells #[.bool N2, .slice a3 k3 c3, .slice a4 k4 c4] 48)).alloc (.cells #[.bool false, .slice none 0 0, .slice none 0 0] 48)).frozen? ⟨(w.heap.size + 1), o, none⟩ = false) ∧ (w.heap.size + 1) < (((w.alloc (.cells #[.bool N1, .slice a1 k1 c1, .slice a2 k2 c2] 48)).alloc (.cells #[.bool N2, .slice a3 k3 c3, .slice a4 k4 c4] 48)).alloc (.cells #[.bool false, .slice none 0 0, .slice none 0 0] 48)).heap.size) ∧ Below w.heap.size w (((w.alloc (.cells #[.bool N1, .slice a1 k1 c1, .slice a2 k2 c2] 48)).alloc (.cells #[.bool N2, .slice a3 k3 c3, .slice a4 k4 c4] 48)).alloc (.cells #[.bool false, .slice none 0 0, .slice none 0 0] 48)) :=
    dd_alloc ⟨bx3_alloc (bx3_made w (m := w.heap.size) _ _ _ 48 rfl) _, bx3_made (w.alloc _) (m := w.heap.size + 1) _ _ _ 48 (by simp), ((Below.refl _ _).alloc (Nat.le_refl _) _).alloc (by simp) _⟩ _
  have hR := bx3_made ((w.alloc (.cells #[.bool N1, .slice a1 k1 c1, .slice a2 k2 c2] 48)).alloc (.cells #[.bool N2, .slice a3 k3 c3, .slice a4 k4 c4] 48)) (m := w.heap.size + 1 + 1) (.bool false) (.slice none 0 0) (.slice none 0 0) 48 (by simp)
  go_enter Oajg.func107, Oajg.ntmps107
  go_wp2_with fail
  go_region_held3 (fun W => (W.cell? ⟨w.heap.size, 0, none⟩ = some (.bool N1) ∧ W.cell? ⟨w.heap.size, 1, none⟩ = some (.slice a1 k1 c1) ∧ W.cell? ⟨w.heap.size, 2, none⟩ = some (.slice a2 k2 c2) ∧ (∀ o, W.frozen? ⟨w.heap.size, o, none⟩ = false) ∧ w.heap.size < W.heap.size) ∧ (W.cell? ⟨(w.heap.size + 1), 0, none⟩ = some (.bool N2) ∧ W.cell? ⟨(w.heap.size + 1), 1, none⟩ = some (.slice a3 k3 c3) ∧ W.cell? ⟨(w.heap.size + 1), 2, none⟩ = some (.slice a4 k4 c4) ∧ (∀ o, W.frozen? ⟨(w.heap.size + 1), o, none⟩ = false) ∧ (w.heap.size + 1) < W.heap.size) ∧ Below w.heap.size w W)
    ((repeat' (first | with_reducible assumption | with_reducible refine dd_drew ?_)))
    ((go_at_call 62; first | ((with_reducible refine Calls.mono (HM1.out _ ?hh) ?_); (case hh => with_reducible assumption); rintro _ w1 ⟨b1, l1, e1, rfl, hN, hb⟩; have hQ1 := dd_next (by with_reducible assumption) hb; have hR1 := bx3_next (bx3_drew hR) hb; have HX1 : Hid (NatIs (B + B) w1 (.slice b1 l1 e1) (n1 * d2)) := hN; clear hb hN) | ((with_reducible refine Calls.mono (HM2.out _ ?hh) ?_); (case hh => with_reducible assumption); rintro _ w2 ⟨b2, l2, e2, rfl, hN, hb⟩; have hQ2 := dd_next (by with_reducible assumption) hb; have hR2 := bx3_next hR1 hb; have HX2 : Hid (NatIs (B + B) w2 (.slice b1 l1 e1) (n1 * d2)) := HX1.out.kp (Kp.of hb); have HY2 : Hid (NatIs (B + B) w2 (.slice b2 l2 e2) (n2 * d1)) := hN; clear hb hN)))
  clear hQ hR hQ1 hR1 HX1
  go_wp2_with fail
  refine Calls.mono (HM3.out _ hQ2) ?_
  rintro _ w3 ⟨b3, l3, e3, rfl, hN, hb⟩
  have hQ3 := dd_next hQ2 hb
  have hR3 := bx3_next hR2 hb
  have HX3 : Hid (NatIs (B + B) w3 (.slice b1 l1 e1) (n1 * d2)) := HX2.out.kp (Kp.of hb)
  have HY3 : Hid (NatIs (B + B) w3 (.slice b2 l2 e2) (n2 * d1)) := HY2.out.kp (Kp.of hb)
  have HZ3 : Hid (NatIs (B + B) w3 (.slice b3 l3 e3) (d1 * d2)) := hN
  clear hb hN hQ2 hR2 HX2 HY2 HM1 HM2 HM3
  have HA : Hid (Calls Oajg.prog 156 #[.slice b1 l1 e1, .slice b2 l2 e2] w3 fun e w' => ∃ v', e = .returned (.tuple #[v', .bool true]) ∧ NatIs (B + B) w' v' (n1 * d2 - n2 * d1) ∧ Below w3.heap.size w3 w') := sub_ge (B + B) (B + B) _ _ (n1 * d2) (n2 * d1) w3 HX3.out HY3.out (by omega) (by omega) hle
  clear HX3 HY3 hle
  go_wp2_with fail
  refine Calls.mono HA.out ?_
  rintro _ w4 ⟨v4, rfl, hN, hb⟩
  obtain ⟨b4, l4, e4, rfl⟩ := hN.shape
  have hQ4 := dd_next hQ3 hb
  have hR4 := bx3_next hR3 hb
  have HN4 : Hid (NatIs (B + B) w4 (.slice b4 l4 e4) (n1 * d2 - n2 * d1)) := hN
  have HZ4 : Hid (NatIs (B + B) w4 (.slice b3 l3 e3) (d1 * d2)) := HZ3.out.kp (Kp.of hb)
  clear hb hN hQ3 hR3 HZ3 HA
  go_wp2_with fail
  have hkp := store3 hR4 (not32_bool _) (not32_slice _ _ _) (not32_slice _ _ _) (.bool N1) (.slice b4 l4 e4) (.slice b3 l3 e3)
  refine bodyPost_ret (v := .agg #[.bool N1, .slice b4 l4 e4, .slice b3 l3 e3]) (by simp [results, Oajg.results107, go_sem, hR4]) rfl ⟨_, _, _, _, _, _, rfl, (HN4.out.kp hkp).mono (by omega), (HZ4.out.kp hkp).mono (by omega), ?_⟩
  exact ((hQ4.2.2.setCell (Nat.le_add_right _ 2) _).setCell (Nat.le_add_right _ 2) _).setCell (Nat.le_add_right _ 2) _

set_option maxRecDepth 100000 in
set_option maxHeartbeats 4000000 in
theorem addRat_lt (N1 N2 : Bool) (a1 a2 a3 a4 : Option Addr) (k1 c1 k2 c2 k3 c3 k4 c4 B n1 d1 n2 d2 : Nat) (w : World)
    (h1 : NatIs B w (.slice a1 k1 c1) n1) (h2 : NatIs B w (.slice a2 k2 c2) d1) (h3 : NatIs B w (.slice a3 k3 c3) n2) (h4 : NatIs B w (.slice a4 k4 c4) d2) (hB : B ≤ 100000000) (hs : N1 ≠ N2) (hlt : n1 * d2 < n2 * d1) :
    Calls Oajg.prog 107 #[.agg #[.bool N1, .slice a1 k1 c1, .slice a2 k2 c2], .agg #[.bool N2, .slice a3 k3 c3, .slice a4 k4 c4]] w fun e w' => ∃ b1 l1 e1 b2 l2 e2,
      e = .returned (.agg #[.bool N2, .slice b1 l1 e1, .slice b2 l2 e2]) ∧ NatIs (4 * B + 1) w' (.slice b1 l1 e1) (n2 * d1 - n1 * d2) ∧ NatIs (4 * B + 1) w' (.slice b2 l2 e2) (d1 * d2) ∧ Below w.heap.size w w' := by
  have j : (N1 == N2) = false := by simp [hs]
  clear hs
  have HM1 : Hid (∀ W, ((W.cell? ⟨w.heap.size, 0, none⟩ = some (.bool N1) ∧ W.cell? ⟨w.heap.size, 1, none⟩ = some (.slice a1 k1 c1) ∧ W.cell? ⟨w.heap.size, 2, none⟩ = some (.slice a2 k2 c2) ∧ (∀ o, W.frozen? ⟨w.heap.size, o, none⟩ = false) ∧ w.heap.size < W.heap.size) ∧ (W.cell? ⟨(w.heap.size + 1), 0, none⟩ = some (.bool N2) ∧ W.cell? ⟨(w.heap.size + 1), 1, none⟩ = some (.slice a3 k3 c3) ∧ W.cell? ⟨(w.heap.size + 1), 2, none⟩ = some (.slice a4 k4 c4) ∧ (∀ o, W.frozen? ⟨(w.heap.size + 1), o, none⟩ = false) ∧ (w.heap.size + 1) < W.heap.size) ∧ Below w.heap.size w W) → Calls Oajg.prog 62 #[.slice a1 k1 c1, .slice a4 k4 c4] W fun e w' => ∃ ad k c, e = .returned (.slice ad k c) ∧ NatIs (B + B) w' (.slice ad k c) (n1 * d2) ∧ Below W.heap.size W w') := fun W hW => shaped (mul_any B B _ _ n1 d2 W (h1.kp (Kp.of hW.2.2)) (h4.kp (Kp.of hW.2.2)) (by omega) (by omega))
  have HM2 : Hid (∀ W, ((W.cell? ⟨w.heap.size, 0, none⟩ = some (.bool N1) ∧ W.cell? ⟨w.heap.size, 1, none⟩ = some (.slice a1 k1 c1) ∧ W.cell? ⟨w.heap.size, 2, none⟩ = some (.slice a2 k2 c2) ∧ (∀ o, W.frozen? ⟨w.heap.size, o, none⟩ = false) ∧ w.heap.size < W.heap.size) ∧ (W.cell? ⟨(w.heap.size + 1), 0, none⟩ = some (.bool N2) ∧ W.cell? ⟨(w.heap.size + 1), 1, none⟩ = some (.slice a3 k3 c3) ∧ W.cell? ⟨(w.heap.size + 1), 2, none⟩ = some (.slice a4 k4 c4) ∧ (∀ o, W.frozen? ⟨(w.heap.size + 1), o, none⟩ = false) ∧ (w.heap.size + 1) < W.heap.size) ∧ Below w.heap.size w W) → Calls Oajg.prog 62 #[.slice a3 k3 c3, .slice a2 k2 c2] W fun e w' => ∃ ad k c, e = .returned (.slice ad k c) ∧ NatIs (B + B) w' (.slice ad k c) (n2 * d1) ∧ Below W.heap.size W w') := fun W hW => shaped (mul_any B B _ _ n2 d1 W (h3.kp (Kp.of hW.2.2)) (h2.kp (Kp.of hW.2.2)) (by omega) (by omega))
  have HM3 : Hid (∀ W, ((W.cell? ⟨w.heap.size, 0, none⟩ = some (.bool N1) ∧ W.cell? ⟨w.heap.size, 1, none⟩ = some (.slice a1 k1 c1) ∧ W.cell? ⟨w.heap.size, 2, none⟩ = some (.slice a2 k2 c2) ∧ (∀ o, W.frozen? ⟨w.heap.size, o, none⟩ = false) ∧ w.heap.size < W.heap.size) ∧ (W.cell? ⟨(w.heap.size + 1), 0, none⟩ = some (.bool N2) ∧ W.cell? ⟨(w.heap.size + 1), 1, none⟩ = some (.slice a3 k3 c3) ∧ W.cell? ⟨(w.heap.size + 1), 2, none⟩ = some (.slice a4 k4 c4) ∧ (∀ o, W.frozen? ⟨(w.heap.size + 1), o, none⟩ = false) ∧ (w.heap.size + 1) < W.heap.size) ∧ Below w.heap.size w W) → Calls Oajg.prog 62 #[.slice a2 k2 c2, .slice a4 k4 c4] W fun e w' => ∃ ad k c, e = .returned (.slice ad k c) ∧ NatIs (B + B) w' (.slice ad k c) (d1 * d2) ∧ Below W.heap.size W w') := fun W hW => shaped (mul_any B B _ _ d1 d2 W (h2.kp (Kp.of hW.2.2)) (h4.kp (Kp.of hW.2.2)) (by omega) (by omega))
  clear h1 h2 h3 h4
  have hQ : ((((w.alloc (.cells #[.bool N1, .slice a1 k1 c1, .slice a2 k2 c2] 48)).alloc (.cells #[.bool N2, .slice a3 k3 c3, .slice a4 k4 c4] 48)).alloc (.cells #[.bool false, .slice none 0 0, .slice none 0 0] 48)).cell? ⟨w.heap.size, 0, none⟩ = some (.bool N1) ∧ (((w.alloc (.cells #[.bool N1, .slice a1 k1 c1, .slice a2 k2 c2] 48)).alloc (.cells #[.bool N2, .slice a3 k3 c3, .slice a4 k4 c4] 48)).alloc (.cells #[.bool false, .slice none 0 0, .slice none 0 0] 48)).cell? ⟨w.heap.size, 1, none⟩ = some (.slice a1 k1 c1) ∧ (((w.alloc (.cells #[.bool N1, .slice a1 k1 c1, .slice a2 k2 c2] 48)).alloc (.cells #[.bool N2, .slice a3 k3 c3, .slice a4 k4 c4] 48)).alloc (.cells #[.bool false, .slice none 0 0, .slice none 0 0] 48)).cell? ⟨w.heap.size, 2, none⟩ = some (.slice a2 k2 c2) ∧ (∀ o, (((w.alloc (.cells #[.bool N1, .slice a1 k1 c1, .slice a2 k2 c2] 48)).alloc (.cells #[.bool N2, .slice a3 k3 c3, .slice a4 k4 c4] 48)).alloc (.cells #[.bool false, .slice none 0 0, .slice none 0 0] 48)).frozen? ⟨w.heap.size, o, none⟩ = false) ∧ w.heap.size < (((w.alloc (.cells #[.bool N1, .slice a1 k1 c1, .slice a2 k2 c2] 48)).alloc (.cells #[.bool N2, .slice a3 k3 c3, .slice a4 k4 c4] 48)).alloc (.cells #[.bool false, .slice none 0 0, .slice none 0 0] 48)).heap.size) ∧ ((((w.alloc (.cells #[.bool N1, .slice a1 k1 c1, .slice a2 k2 c2] 48)).alloc (.cells #[.bool N2, .slice a3 k3 c3, .slice a4 k4 c4] 48)).alloc (.cells #[.bool false, .slice none 0 0, .slice none 0 0] 48)).cell? ⟨(w.heap.size + 1), 0, none⟩ = some (.bool N2) ∧ (((w.alloc (.cells #[.bool N1, .slice a1 k1 c1, .slice a2 k2 c2] 48)).alloc (.cells #[.bool N2, .slice a3 k3 c3, .slice a4 k4 c4] 48)).alloc (.cells #[.bool false, .slice none 0 0, .slice none 0 0] 48)).cell? ⟨(w.heap.size + 1), 1, none⟩ = some (.slice a3 k3 c3) ∧ (((w.alloc (.cells #[.bool N1, .slice a1 k1 c1, .slice a2 k2 c2] 48)).alloc (.cells #[.bool N2, .slice a3 k3 c3, .slice a4 k4 c4] 48)).alloc (.cells #[.bool false, .slice none 0 0, .slice none 0 0] 48)).cell? ⟨(w.heap.size + 1), 2, none⟩ = some (.slice a4 k4 c4) ∧ (∀ o, (((w.alloc (.cells #[.bool N1, .slice a1 k1 c1, .slice a2 k2 c2] 48)).alloc (.cells #[.bool N2, .slice a3 k3 c3, .slice a4 k4 c4] 48)).alloc (.cells #[.bool false, .slice none 0 0, .slice none 0 0] 48)).frozen? ⟨(w.heap.size + 1), o, none⟩ = false) ∧ (w.heap.size + 1) < (((w.alloc (.cells #[.bool N1, .slice a1 k1 c1, .slice a2 k2 c2] 48)).alloc (.cells #[.bool N2, .slice a3 k3 c3, .slice a4 k4 c4] 48)).alloc (.cells #[.bool false, .slice none 0 0, .slice none 0 0] 48)).heap.size) ∧ Below w.heap.size w (((w.alloc (.cells #[.bool N1, .slice a1 k1 c1, .slice a2 k2 c2] 48)).alloc (.cells #[.bool N2, .slice a3 k3 c3, .slice a4 k4 c4] 48)).alloc (.cells #[.bool false, .slice none 0 0, .slice none 0 0] 48)) :=
    dd_alloc ⟨bx3_alloc (bx3_made w (m := w.heap.size) _ _ _ 48 rfl) _, bx3_made (w.alloc _) (m := w.heap.size + 1) _ _ _ 48 (by simp), ((Below.refl _ _).alloc (Nat.le_refl _) _).alloc (by simp) _⟩ _
  have hR := bx3_made ((w.alloc (.cells #[.bool N1, .slice a1 k1 c1, .slice a2 k2 c2] 48)).alloc (.cells #[.bool N2, .slice a3 k3 c3, .slice a4 k4 c4] 48)) (m := w.heap.size + 1 + 1) (.bool false) (.slice none 0 0) (.slice none 0 0) 48 (by simp)
  go_enter Oajg.func107, Oajg.ntmps107
  go_wp2_with fail
  go_region_held3 (fun W => (W.cell? ⟨w.heap.size, 0, none⟩ = some (.bool N1) ∧ W.cell? ⟨w.heap.size, 1, none⟩ = some (.slice a1 k1 c1) ∧ W.cell? ⟨w.heap.size, 2, none⟩ = some (.slice a2 k2 c2) ∧ (∀ o, W.frozen? ⟨w.heap.size, o, none⟩ = false) ∧ w.heap.size < W.heap.size) ∧ (W.cell? ⟨(w.heap.size + 1), 0, none⟩ = some (.bool N2) ∧ W.cell? ⟨(w.heap.size + 1), 1, none⟩ = some (.slice a3 k3 c3) ∧ W.cell? ⟨(w.heap.size + 1), 2, none⟩ = some (.slice a4 k4 c4) ∧ (∀ o, W.frozen? ⟨(w.heap.size + 1), o, none⟩ = false) ∧ (w.heap.size + 1) < W.heap.size) ∧ Below w.heap.size w W)
    ((repeat' (first | with_reducible assumption | with_reducible refine dd_drew ?_)))
    ((go_at_call 62; first | ((with_reducible refine Calls.mono (HM1.out _ ?hh) ?_); (case hh => with_reducible assumption); rintro _ w1 ⟨b1, l1, e1, rfl, hN, hb⟩; have hQ1 := dd_next (by with_reducible assumption) hb; have hR1 := bx3_next (bx3_drew hR) hb; have HX1 : Hid (NatIs (B + B) w1 (.slice b1 l1 e1) (n1 * d2)) := hN; clear hb hN) | ((with_reducible refine Calls.mono (HM2.out _ ?hh) ?_); (case hh => with_reducible assumption); rintro _ w2 ⟨b2, l2, e2, rfl, hN, hb⟩; have hQ2 := dd_next (by with_reducible assumption) hb; have hR2 := bx3_next hR1 hb; have HX2 : Hid (NatIs (B + B) w2 (.slice b1 l1 e1) (n1 * d2)) := HX1.out.kp (Kp.of hb); have HY2 : Hid (NatIs (B + B) w2 (.slice b2 l2 e2) (n2 * d1)) := hN; clear hb hN)))
  clear hQ hR hQ1 hR1 HX1
  go_wp2_with fail
  refine Calls.mono (HM3.out _ hQ2) ?_
  rintro _ w3 ⟨b3, l3, e3, rfl, hN, hb⟩
  have hQ3 := dd_next hQ2 hb
  have hR3 := bx3_next hR2 hb
  have HX3 : Hid (NatIs (B + B) w3 (.slice b1 l1 e1) (n1 * d2)) := HX2.out.kp (Kp.of hb)
  have HY3 : Hid (NatIs (B + B) w3 (.slice b2 l2 e2) (n2 * d1)) := HY2.out.kp (Kp.of hb)
  have HZ3 : Hid (NatIs (B + B) w3 (.slice b3 l3 e3) (d1 * d2)) := hN
  clear hb hN hQ2 hR2 HX2 HY2 HM1 HM2 HM3
  have HA : Hid (Calls Oajg.prog 156 #[.slice b1 l1 e1, .slice b2 l2 e2] w3 fun e w' => e = .returned (.tuple #[.slice none 0 0, .bool false]) ∧ Below w3.heap.size w3 w') := sub_less (B + B) (B + B) _ _ (n1 * d2) (n2 * d1) w3 HX3.out HY3.out (by omega) (by omega) hlt
  have HA2 : Hid (∀ W, Kp w3 W → Calls Oajg.prog 156 #[.slice b2 l2 e2, .slice b1 l1 e1] W fun e w' => ∃ v', e = .returned (.tuple #[v', .bool true]) ∧ NatIs (B + B) w' v' (n2 * d1 - n1 * d2) ∧ Below W.heap.size W w') := fun W hk => sub_ge (B + B) (B + B) _ _ (n2 * d1) (n1 * d2) W (HY3.out.kp hk) (HX3.out.kp hk) (by omega) (by omega) (by omega)
  clear HX3 HY3 hlt
  go_wp2_with fail
  refine Calls.mono HA.out ?_
  rintro _ w5 ⟨rfl, hb⟩
  have hQ5 := dd_next hQ3 hb
  have hR5 := bx3_next hR3 hb
  have HA3 : Hid (Calls Oajg.prog 156 #[.slice b2 l2 e2, .slice b1 l1 e1] w5 fun e w' => ∃ v', e = .returned (.tuple #[v', .bool true]) ∧ NatIs (B + B) w' v' (n2 * d1 - n1 * d2) ∧ Below w5.heap.size w5 w') := HA2.out w5 (Kp.of hb)
  have HZ5 : Hid (NatIs (B + B) w5 (.slice b3 l3 e3) (d1 * d2)) := HZ3.out.kp (Kp.of hb)
  clear hb hQ3 hR3 HZ3 HA HA2
  go_wp2_with fail
  refine Calls.mono HA3.out ?_
  rintro _ w4 ⟨v4, rfl, hN, hb⟩
  obtain ⟨b4, l4, e4, rfl⟩ := hN.shape
  have hQ4 := dd_next hQ5 hb
  have hR4 := bx3_next hR5 hb
  have HN4 : Hid (NatIs (B + B) w4 (.slice b4 l4 e4) (n2 * d1 - n1 * d2)) := hN
  have HZ4 : Hid (NatIs (B + B) w4 (.slice b3 l3 e3) (d1 * d2)) := HZ5.out.kp (Kp.of hb)
  clear hb hN hQ5 hR5 HZ5 HA3
  go_wp2_with fail
  have hkp := store3 hR4 (not32_bool _) (not32_slice _ _ _) (not32_slice _ _ _) (.bool N2) (.slice b4 l4 e4) (.slice b3 l3 e3)
  refine bodyPost_ret (v := .agg #[.bool N2, .slice b4 l4 e4, .slice b3 l3 e3]) (by simp [results, Oajg.results107, go_sem, hR4]) rfl ⟨_, _, _, _, _, _, rfl, (HN4.out.kp hkp).mono (by omega), (HZ4.out.kp hkp).mono (by omega), ?_⟩
  exact ((hQ4.2.2.setCell (Nat.le_add_right _ 2) _).setCell (Nat.le_add_right _ 2) _).setCell (Nat.le_add_right _ 2) _

theorem addRat_ok (N1 N2 : Bool) (a1 a2 a3 a4 : Option Addr) (k1 c1 k2 c2 k3 c3 k4 c4 B n1 d1 n2 d2 : Nat) (w : World)
    (h1 : NatIs B w (.slice a1 k1 c1) n1) (h2 : NatIs B w (.slice a2 k2 c2) d1) (h3 : NatIs B w (.slice a3 k3 c3) n2) (h4 : NatIs B w (.slice a4 k4 c4) d2) (hB : B ≤ 100000000) :
    Calls Oajg.prog 107 #[.agg #[.bool N1, .slice a1 k1 c1, .slice a2 k2 c2], .agg #[.bool N2, .slice a3 k3 c3, .slice a4 k4 c4]] w fun e w' => ∃ b1 l1 e1 b2 l2 e2,
      e = .returned (.agg #[.bool (adNeg N1 N2 (n1 * d2) (n2 * d1)), .slice b1 l1 e1, .slice b2 l2 e2]) ∧ NatIs (4 * B + 1) w' (.slice b1 l1 e1) (adNum N1 N2 (n1 * d2) (n2 * d1)) ∧ NatIs (4 * B + 1) w' (.slice b2 l2 e2) (d1 * d2) ∧ Below w.heap.size w w' := by
  unfold adNeg adNum
  by_cases hs : N1 = N2
  · rw [if_pos hs, if_pos hs]
    exact addRat_same N1 N2 a1 a2 a3 a4 k1 c1 k2 c2 k3 c3 k4 c4 B n1 d1 n2 d2 w h1 h2 h3 h4 hB hs
  · rw [if_neg hs, if_neg hs]
    by_cases hle : n2 * d1 ≤ n1 * d2
    · rw [if_pos hle, if_pos hle]
      exact addRat_ge N1 N2 a1 a2 a3 a4 k1 c1 k2 c2 k3 c3 k4 c4 B n1 d1 n2 d2 w h1 h2 h3 h4 hB hs hle
    · rw [if_neg hle, if_neg hle]
      exact addRat_lt N1 N2 a1 a2 a3 a4 k1 c1 k2 c2 k3 c3 k4 c4 B n1 d1 n2 d2 w h1 h2 h3 h4 hB hs (by omega)

end Go.Proofs.Ygcoaj
