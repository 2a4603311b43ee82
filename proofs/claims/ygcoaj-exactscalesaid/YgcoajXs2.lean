/-
  WALKS: law.isTiny, law.wantFlags.
-/
import Derived.Test.YgcoajXs1
set_option linter.unusedVariables false
set_option linter.unusedSimpArgs false
namespace Go.Proofs.Ygcoaj
open Go.RowKit

theorem rf_alloc {w W A : World} {b E M m : Nat} {x0 x1 x2 : Value} (h : (W.cell? ⟨b, 0, none⟩ = some (.int .u8 (E : Int)) ∧ W.cell? ⟨b, 1, none⟩ = some (.int .u8 (M : Int)) ∧ b < W.heap.size ∧ Below w.heap.size w W) ∧ (W.cell? ⟨m, 0, none⟩ = some x0 ∧ W.cell? ⟨m, 1, none⟩ = some x1 ∧ W.cell? ⟨m, 2, none⟩ = some x2 ∧ (∀ o, W.frozen? ⟨m, o, none⟩ = false) ∧ m < W.heap.size) ∧ Kp A W) (ob : Obj) : ((W.alloc ob).cell? ⟨b, 0, none⟩ = some (.int .u8 (E : Int)) ∧ (W.alloc ob).cell? ⟨b, 1, none⟩ = some (.int .u8 (M : Int)) ∧ b < (W.alloc ob).heap.size ∧ Below w.heap.size w (W.alloc ob)) ∧ ((W.alloc ob).cell? ⟨m, 0, none⟩ = some x0 ∧ (W.alloc ob).cell? ⟨m, 1, none⟩ = some x1 ∧ (W.alloc ob).cell? ⟨m, 2, none⟩ = some x2 ∧ (∀ o, (W.alloc ob).frozen? ⟨m, o, none⟩ = false) ∧ m < (W.alloc ob).heap.size) ∧ Kp A (W.alloc ob) := rf_next h ((Below.refl _ _).alloc (Nat.le_refl _) ob)
theorem rf_store {w W A : World} {b E M m : Nat} {x0 x1 x2 : Value} (h : (W.cell? ⟨b, 0, none⟩ = some (.int .u8 (E : Int)) ∧ W.cell? ⟨b, 1, none⟩ = some (.int .u8 (M : Int)) ∧ b < W.heap.size ∧ Below w.heap.size w W) ∧ (W.cell? ⟨m, 0, none⟩ = some x0 ∧ W.cell? ⟨m, 1, none⟩ = some x1 ∧ W.cell? ⟨m, 2, none⟩ = some x2 ∧ (∀ o, W.frozen? ⟨m, o, none⟩ = false) ∧ m < W.heap.size) ∧ Kp A W) {p : Addr} {u v : Value} (hp : w.heap.size ≤ p.block ∧ b ≠ p.block ∧ m ≠ p.block ∧ W.cell? p = some v ∧ Not32 v) : ((W.setCell p u).cell? ⟨b, 0, none⟩ = some (.int .u8 (E : Int)) ∧ (W.setCell p u).cell? ⟨b, 1, none⟩ = some (.int .u8 (M : Int)) ∧ b < (W.setCell p u).heap.size ∧ Below w.heap.size w (W.setCell p u)) ∧ ((W.setCell p u).cell? ⟨m, 0, none⟩ = some x0 ∧ (W.setCell p u).cell? ⟨m, 1, none⟩ = some x1 ∧ (W.setCell p u).cell? ⟨m, 2, none⟩ = some x2 ∧ (∀ o, (W.setCell p u).frozen? ⟨m, o, none⟩ = false) ∧ m < (W.setCell p u).heap.size) ∧ Kp A (W.setCell p u) :=
  ⟨sf_store h.1 ⟨hp.1, hp.2.1⟩, bx3_far h.2.1 hp.2.2.1, h.2.2.setCell hp.2.2.2.1 hp.2.2.2.2⟩
theorem rh_next {w W W' A : World} {b E M m : Nat} {x0 x1 x2 : Value} {q : Nat} {y0 y1 y2 : Value} (h : (W.cell? ⟨b, 0, none⟩ = some (.int .u8 (E : Int)) ∧ W.cell? ⟨b, 1, none⟩ = some (.int .u8 (M : Int)) ∧ b < W.heap.size ∧ Below w.heap.size w W) ∧ (W.cell? ⟨m, 0, none⟩ = some x0 ∧ W.cell? ⟨m, 1, none⟩ = some x1 ∧ W.cell? ⟨m, 2, none⟩ = some x2 ∧ (∀ o, W.frozen? ⟨m, o, none⟩ = false) ∧ m < W.heap.size) ∧ Kp A W ∧ (W.cell? ⟨q, 0, none⟩ = some y0 ∧ W.cell? ⟨q, 1, none⟩ = some y1 ∧ W.cell? ⟨q, 2, none⟩ = some y2 ∧ (∀ o, W.frozen? ⟨q, o, none⟩ = false) ∧ q < W.heap.size)) (hb : Below W.heap.size W W') : (W'.cell? ⟨b, 0, none⟩ = some (.int .u8 (E : Int)) ∧ W'.cell? ⟨b, 1, none⟩ = some (.int .u8 (M : Int)) ∧ b < W'.heap.size ∧ Below w.heap.size w W') ∧ (W'.cell? ⟨m, 0, none⟩ = some x0 ∧ W'.cell? ⟨m, 1, none⟩ = some x1 ∧ W'.cell? ⟨m, 2, none⟩ = some x2 ∧ (∀ o, W'.frozen? ⟨m, o, none⟩ = false) ∧ m < W'.heap.size) ∧ Kp A W' ∧ (W'.cell? ⟨q, 0, none⟩ = some y0 ∧ W'.cell? ⟨q, 1, none⟩ = some y1 ∧ W'.cell? ⟨q, 2, none⟩ = some y2 ∧ (∀ o, W'.frozen? ⟨q, o, none⟩ = false) ∧ q < W'.heap.size) := ⟨sf_next h.1 hb, bx3_next h.2.1 hb, h.2.2.1.trans (Kp.of hb), bx3_next h.2.2.2 hb⟩
theorem rh_drew {w W A : World} {b E M m : Nat} {x0 x1 x2 : Value} {q : Nat} {y0 y1 y2 : Value} (h : (W.cell? ⟨b, 0, none⟩ = some (.int .u8 (E : Int)) ∧ W.cell? ⟨b, 1, none⟩ = some (.int .u8 (M : Int)) ∧ b < W.heap.size ∧ Below w.heap.size w W) ∧ (W.cell? ⟨m, 0, none⟩ = some x0 ∧ W.cell? ⟨m, 1, none⟩ = some x1 ∧ W.cell? ⟨m, 2, none⟩ = some x2 ∧ (∀ o, W.frozen? ⟨m, o, none⟩ = false) ∧ m < W.heap.size) ∧ Kp A W ∧ (W.cell? ⟨q, 0, none⟩ = some y0 ∧ W.cell? ⟨q, 1, none⟩ = some y1 ∧ W.cell? ⟨q, 2, none⟩ = some y2 ∧ (∀ o, W.frozen? ⟨q, o, none⟩ = false) ∧ q < W.heap.size)) : (W.drew.cell? ⟨b, 0, none⟩ = some (.int .u8 (E : Int)) ∧ W.drew.cell? ⟨b, 1, none⟩ = some (.int .u8 (M : Int)) ∧ b < W.drew.heap.size ∧ Below w.heap.size w W.drew) ∧ (W.drew.cell? ⟨m, 0, none⟩ = some x0 ∧ W.drew.cell? ⟨m, 1, none⟩ = some x1 ∧ W.drew.cell? ⟨m, 2, none⟩ = some x2 ∧ (∀ o, W.drew.frozen? ⟨m, o, none⟩ = false) ∧ m < W.drew.heap.size) ∧ Kp A W.drew ∧ (W.drew.cell? ⟨q, 0, none⟩ = some y0 ∧ W.drew.cell? ⟨q, 1, none⟩ = some y1 ∧ W.drew.cell? ⟨q, 2, none⟩ = some y2 ∧ (∀ o, W.drew.frozen? ⟨q, o, none⟩ = false) ∧ q < W.drew.heap.size) := ⟨sf_drew h.1, bx3_drew h.2.1, h.2.2.1.drew, bx3_drew h.2.2.2⟩

theorem sgnd_lt {E M x : Nat} (neg : Bool) (h : x < 2 ^ (E + M)) : sgnd E M neg x < 2 ^ (E + M + 1) := by
  unfold sgnd
  rw [Nat.pow_succ]
  split <;> omega
theorem rfN_lt {E M mo : Nat} {neg : Bool} {n d : Nat} : rfN E M mo neg n d < 2 ^ (E + M + 1) := by
  have h0 := pp (E + M)
  have hi := infN_lt E M
  have hov : ovN E M mo neg < 2 ^ (E + M + 1) := by
    unfold ovN
    split
    · exact sgnd_lt neg (by omega)
    · exact sgnd_lt neg hi
  unfold rfN
  split
  · exact sgnd_lt neg h0
  · split
    · exact hov
    · unfold pkN
      split
      · exact hov
      · exact sgnd_lt neg (by omega)
theorem rfN_64 {E M mo : Nat} {neg : Bool} {n d : Nat} (h : FOk E M) : rfN E M mo neg n d < 18446744073709551616 := by
  have h1 : 2 ^ (E + M + 1) ≤ 2 ^ 64 := Nat.pow_le_pow_right (by decide) (by have := h.e11; have := h.m52; omega)
  exact Nat.lt_of_lt_of_le rfN_lt h1

theorem cmpZ_ge {a b : Nat} : decide (0 ≤ cmpZ a b) = decide (b ≤ a) := by
  unfold cmpZ
  split
  · rw [decide_eq_false (by omega), decide_eq_false (by omega)]
  · rw [decide_eq_true (show b ≤ a by omega)]
    split <;> decide
theorem cmpZ_gp {n d : Nat} {k : Int} : decide (0 ≤ cmpZ (n * 2 ^ (-k).toNat) (2 ^ k.toNat * d)) = gePow n d k := by
  rw [cmpZ_ge, Nat.mul_comm (2 ^ k.toNat)]; rfl
theorem cmpZ_lt0 {a b : Nat} : decide (cmpZ a b < 0) = !decide (0 ≤ cmpZ a b) := by
  by_cases h : cmpZ a b < 0
  · rw [decide_eq_true h, decide_eq_false (by omega)]; rfl
  · rw [decide_eq_false h, decide_eq_true (by omega)]; rfl


theorem re_next {w W W' : World} {b E M m : Nat} {x0 x1 x2 : Value} (h : (W.cell? ⟨b, 0, none⟩ = some (.int .u8 (E : Int)) ∧ W.cell? ⟨b, 1, none⟩ = some (.int .u8 (M : Int)) ∧ b < W.heap.size ∧ Below w.heap.size w W) ∧ (W.cell? ⟨m, 0, none⟩ = some x0 ∧ W.cell? ⟨m, 1, none⟩ = some x1 ∧ W.cell? ⟨m, 2, none⟩ = some x2 ∧ (∀ o, W.frozen? ⟨m, o, none⟩ = false) ∧ m < W.heap.size)) (hb : Below W.heap.size W W') : (W'.cell? ⟨b, 0, none⟩ = some (.int .u8 (E : Int)) ∧ W'.cell? ⟨b, 1, none⟩ = some (.int .u8 (M : Int)) ∧ b < W'.heap.size ∧ Below w.heap.size w W') ∧ (W'.cell? ⟨m, 0, none⟩ = some x0 ∧ W'.cell? ⟨m, 1, none⟩ = some x1 ∧ W'.cell? ⟨m, 2, none⟩ = some x2 ∧ (∀ o, W'.frozen? ⟨m, o, none⟩ = false) ∧ m < W'.heap.size) := ⟨sf_next h.1 hb, bx3_next h.2 hb⟩
theorem re_drew {w W : World} {b E M m : Nat} {x0 x1 x2 : Value} (h : (W.cell? ⟨b, 0, none⟩ = some (.int .u8 (E : Int)) ∧ W.cell? ⟨b, 1, none⟩ = some (.int .u8 (M : Int)) ∧ b < W.heap.size ∧ Below w.heap.size w W) ∧ (W.cell? ⟨m, 0, none⟩ = some x0 ∧ W.cell? ⟨m, 1, none⟩ = some x1 ∧ W.cell? ⟨m, 2, none⟩ = some x2 ∧ (∀ o, W.frozen? ⟨m, o, none⟩ = false) ∧ m < W.heap.size)) : (W.drew.cell? ⟨b, 0, none⟩ = some (.int .u8 (E : Int)) ∧ W.drew.cell? ⟨b, 1, none⟩ = some (.int .u8 (M : Int)) ∧ b < W.drew.heap.size ∧ Below w.heap.size w W.drew) ∧ (W.drew.cell? ⟨m, 0, none⟩ = some x0 ∧ W.drew.cell? ⟨m, 1, none⟩ = some x1 ∧ W.drew.cell? ⟨m, 2, none⟩ = some x2 ∧ (∀ o, W.drew.frozen? ⟨m, o, none⟩ = false) ∧ m < W.drew.heap.size) := ⟨sf_drew h.1, bx3_drew h.2⟩
theorem re_alloc {w W : World} {b E M m : Nat} {x0 x1 x2 : Value} (h : (W.cell? ⟨b, 0, none⟩ = some (.int .u8 (E : Int)) ∧ W.cell? ⟨b, 1, none⟩ = some (.int .u8 (M : Int)) ∧ b < W.heap.size ∧ Below w.heap.size w W) ∧ (W.cell? ⟨m, 0, none⟩ = some x0 ∧ W.cell? ⟨m, 1, none⟩ = some x1 ∧ W.cell? ⟨m, 2, none⟩ = some x2 ∧ (∀ o, W.frozen? ⟨m, o, none⟩ = false) ∧ m < W.heap.size)) (ob : Obj) : ((W.alloc ob).cell? ⟨b, 0, none⟩ = some (.int .u8 (E : Int)) ∧ (W.alloc ob).cell? ⟨b, 1, none⟩ = some (.int .u8 (M : Int)) ∧ b < (W.alloc ob).heap.size ∧ Below w.heap.size w (W.alloc ob)) ∧ ((W.alloc ob).cell? ⟨m, 0, none⟩ = some x0 ∧ (W.alloc ob).cell? ⟨m, 1, none⟩ = some x1 ∧ (W.alloc ob).cell? ⟨m, 2, none⟩ = some x2 ∧ (∀ o, (W.alloc ob).frozen? ⟨m, o, none⟩ = false) ∧ m < (W.alloc ob).heap.size) := ⟨sf_alloc h.1 _, bx3_alloc h.2 _⟩
theorem re_store {w W : World} {b E M m : Nat} {x0 x1 x2 : Value} (h : (W.cell? ⟨b, 0, none⟩ = some (.int .u8 (E : Int)) ∧ W.cell? ⟨b, 1, none⟩ = some (.int .u8 (M : Int)) ∧ b < W.heap.size ∧ Below w.heap.size w W) ∧ (W.cell? ⟨m, 0, none⟩ = some x0 ∧ W.cell? ⟨m, 1, none⟩ = some x1 ∧ W.cell? ⟨m, 2, none⟩ = some x2 ∧ (∀ o, W.frozen? ⟨m, o, none⟩ = false) ∧ m < W.heap.size)) {p : Addr} {u : Value} (hp : w.heap.size ≤ p.block ∧ b ≠ p.block ∧ m ≠ p.block) : ((W.setCell p u).cell? ⟨b, 0, none⟩ = some (.int .u8 (E : Int)) ∧ (W.setCell p u).cell? ⟨b, 1, none⟩ = some (.int .u8 (M : Int)) ∧ b < (W.setCell p u).heap.size ∧ Below w.heap.size w (W.setCell p u)) ∧ ((W.setCell p u).cell? ⟨m, 0, none⟩ = some x0 ∧ (W.setCell p u).cell? ⟨m, 1, none⟩ = some x1 ∧ (W.setCell p u).cell? ⟨m, 2, none⟩ = some x2 ∧ (∀ o, (W.setCell p u).frozen? ⟨m, o, none⟩ = false) ∧ m < (W.setCell p u).heap.size) := ⟨sf_store h.1 ⟨hp.1, hp.2.1⟩, bx3_far h.2 hp.2.2⟩
set_option maxRecDepth 100000 in
set_option maxHeartbeats 4000000 in
theorem isTiny_ok (E M : Nat) (h : FOk E M) (mo : Nat) (neg : Bool) (B n d : Nat) (a1 a2 : Option Addr) (k1 c1 k2 c2 : Nat) (w : World) (h1 : NatIs B w (.slice a1 k1 c1) n) (h2 : NatIs B w (.slice a2 k2 c2) d) (hB : B ≤ 100000) (hd : d ≠ 0) (hn : n ≠ 0) :
    Calls Oajg.prog 81 #[.agg #[.int .u8 (E : Int), .int .u8 (M : Int)], .int .u8 (mo : Int), .agg #[.bool neg, .slice a1 k1 c1, .slice a2 k2 c2]] w fun e w' => e = .returned (.bool (itB E M mo neg n d)) ∧ Below w.heap.size w w' := by
  have hF : (((w.alloc (.cells #[.int .u8 (E : Int), .int .u8 (M : Int)] 23)).alloc (.cells #[.bool neg, .slice a1 k1 c1, .slice a2 k2 c2] 48)).cell? ⟨w.heap.size, 0, none⟩ = some (.int .u8 (E : Int)) ∧ ((w.alloc (.cells #[.int .u8 (E : Int), .int .u8 (M : Int)] 23)).alloc (.cells #[.bool neg, .slice a1 k1 c1, .slice a2 k2 c2] 48)).cell? ⟨w.heap.size, 1, none⟩ = some (.int .u8 (M : Int)) ∧ w.heap.size < ((w.alloc (.cells #[.int .u8 (E : Int), .int .u8 (M : Int)] 23)).alloc (.cells #[.bool neg, .slice a1 k1 c1, .slice a2 k2 c2] 48)).heap.size ∧ Below w.heap.size w ((w.alloc (.cells #[.int .u8 (E : Int), .int .u8 (M : Int)] 23)).alloc (.cells #[.bool neg, .slice a1 k1 c1, .slice a2 k2 c2] 48))) ∧ (((w.alloc (.cells #[.int .u8 (E : Int), .int .u8 (M : Int)] 23)).alloc (.cells #[.bool neg, .slice a1 k1 c1, .slice a2 k2 c2] 48)).cell? ⟨(w.heap.size + 1), 0, none⟩ = some (.bool neg) ∧ ((w.alloc (.cells #[.int .u8 (E : Int), .int .u8 (M : Int)] 23)).alloc (.cells #[.bool neg, .slice a1 k1 c1, .slice a2 k2 c2] 48)).cell? ⟨(w.heap.size + 1), 1, none⟩ = some (.slice a1 k1 c1) ∧ ((w.alloc (.cells #[.int .u8 (E : Int), .int .u8 (M : Int)] 23)).alloc (.cells #[.bool neg, .slice a1 k1 c1, .slice a2 k2 c2] 48)).cell? ⟨(w.heap.size + 1), 2, none⟩ = some (.slice a2 k2 c2) ∧ (∀ o, ((w.alloc (.cells #[.int .u8 (E : Int), .int .u8 (M : Int)] 23)).alloc (.cells #[.bool neg, .slice a1 k1 c1, .slice a2 k2 c2] 48)).frozen? ⟨(w.heap.size + 1), o, none⟩ = false) ∧ (w.heap.size + 1) < ((w.alloc (.cells #[.int .u8 (E : Int), .int .u8 (M : Int)] 23)).alloc (.cells #[.bool neg, .slice a1 k1 c1, .slice a2 k2 c2] 48)).heap.size) ∧ Kp w ((w.alloc (.cells #[.int .u8 (E : Int), .int .u8 (M : Int)] 23)).alloc (.cells #[.bool neg, .slice a1 k1 c1, .slice a2 k2 c2] 48)) :=
    ⟨sf_alloc (sf_box w E M) _, bx3_made (w.alloc (.cells #[.int .u8 (E : Int), .int .u8 (M : Int)] 23)) (m := w.heap.size + 1) _ _ _ 48 (by simp), ((Kp.refl w).alloc _).alloc _⟩
  have HBI : Hid (∀ w, Calls Oajg.prog 80 #[.agg #[.int .u8 (E : Int), .int .u8 (M : Int)]] w fun e w' => e = .returned (.int .i64 (biasN E : Nat)) ∧ Below w.heap.size w w') := biasOf_ok E M h
  have hbi := biasN_le h.e11
  have hbi1 := biasN_pos h.e2
  obtain ⟨L, hL⟩ : ∃ L : Int, L = 1 - (biasN E : Int) := ⟨_, rfl⟩
  have kL : 1 - (biasN E : Int) = L := hL.symm
  have hLb : -1023 ≤ L ∧ L ≤ 0 := by omega
  obtain ⟨hLb1, hLb2⟩ := hLb
  have z0 := cmpZ_gp (n := n) (d := d) (k := L)
  have z1 := cmpZ_gp (n := n) (d := d) (k := L - 1)
  have z1' := cmpZ_lt0 (a := n * 2 ^ (-(L - 1)).toNat) (b := 2 ^ (L - 1).toNat * d)
  rw [z1] at z1'
  clear z1
  have HP0 : Hid (∀ W, Calls Oajg.prog 28 #[.int .i64 (L)] W fun e w' => ∃ a1 k1 c1 a2 k2 c2, e = .returned (.agg #[.bool false, .slice a1 k1 c1, .slice a2 k2 c2]) ∧ NatIs 2050 w' (.slice a1 k1 c1) (2 ^ (L : Int).toNat) ∧ NatIs 2050 w' (.slice a2 k2 c2) (2 ^ (-(L) : Int).toNat) ∧ Below W.heap.size W w') := fun W => pow2L_ok (L) (by omega) (by omega) W
  have HPm : Hid (∀ W, Calls Oajg.prog 28 #[.int .i64 (L - 1)] W fun e w' => ∃ a1 k1 c1 a2 k2 c2, e = .returned (.agg #[.bool false, .slice a1 k1 c1, .slice a2 k2 c2]) ∧ NatIs 2050 w' (.slice a1 k1 c1) (2 ^ (L - 1 : Int).toNat) ∧ NatIs 2050 w' (.slice a2 k2 c2) (2 ^ (-(L - 1) : Int).toNat) ∧ Below W.heap.size W w') := fun W => pow2L_ok (L - 1) (by omega) (by omega) W
  have HC0 : Hid (∀ W, Kp w W → ∀ p1 p2 p3 q1 q2 q3, NatIs 2050 W (.slice p1 p2 p3) (2 ^ (L : Int).toNat) → NatIs 2050 W (.slice q1 q2 q3) (2 ^ (-(L) : Int).toNat) → Calls Oajg.prog 31 #[.agg #[.bool neg, .slice a1 k1 c1, .slice a2 k2 c2], .agg #[.bool false, .slice p1 p2 p3, .slice q1 q2 q3]] W fun e w' => e = .returned (.int .i8 (cmpZ (n * 2 ^ (-L).toNat) (2 ^ L.toNat * d))) ∧ Below W.heap.size W w') := fun W hW p1 p2 p3 q1 q2 q3 hp hq => cmpSize_ok neg false a1 a2 p1 q1 k1 c1 k2 c2 p2 p3 q2 q3 (B + 2050) n d _ _ W ((h1.kp hW).mono (by omega)) ((h2.kp hW).mono (by omega)) (hp.mono (by omega)) (hq.mono (by omega)) (by omega)
  have HCm : Hid (∀ W, Kp w W → ∀ p1 p2 p3 q1 q2 q3, NatIs 2050 W (.slice p1 p2 p3) (2 ^ (L - 1 : Int).toNat) → NatIs 2050 W (.slice q1 q2 q3) (2 ^ (-(L - 1) : Int).toNat) → Calls Oajg.prog 31 #[.agg #[.bool neg, .slice a1 k1 c1, .slice a2 k2 c2], .agg #[.bool false, .slice p1 p2 p3, .slice q1 q2 q3]] W fun e w' => e = .returned (.int .i8 (cmpZ (n * 2 ^ (-(L - 1)).toNat) (2 ^ (L - 1).toNat * d))) ∧ Below W.heap.size W w') := fun W hW p1 p2 p3 q1 q2 q3 hp hq => cmpSize_ok neg false a1 a2 p1 q1 k1 c1 k2 c2 p2 p3 q2 q3 (B + 2050) n d _ _ W ((h1.kp hW).mono (by omega)) ((h2.kp hW).mono (by omega)) (hp.mono (by omega)) (hq.mono (by omega)) (by omega)
  have kLm : IntKind.i64.wrap (L - 1) = L - 1 := by rw [IntKind.wrap_i64]; omega
  have kLp : IntKind.i64.wrap (L + 1) = L + 1 := by rw [IntKind.wrap_i64]; omega
  have HRES : Hid (itB E M mo neg n d = if gePow n d L then false else if !gePow n d (L - 1) then true else !gePow (vNum E M (rfN E M mo neg (n * 2) d)) (vDen E M (rfN E M mo neg (n * 2) d)) (L + 1)) := by show _ = _; unfold itB; rw [kL]
  cases hg0 : gePow n d L with
  | true =>
    have HR : Hid (itB E M mo neg n d = false) := by show _ = _; rw [HRES.out, hg0]; rfl
    rw [HR.out]
    rw [hg0] at z0
    clear h h1 h2 hd hn HRES HR hg0 z1' HPm HCm hL
    generalize cmpZ (n * 2 ^ (-L).toNat) (2 ^ L.toNat * d) = Z0 at *
    generalize biasN E = Bi at *
    go_enter Oajg.func81, Oajg.ntmps81
    go_wp2_with fail
    refine Calls.mono (HBI.out _) ?_
    rintro _ w1 ⟨rfl, hb⟩
    replace hF := rf_next hF hb
    clear hb
    go_wp2_with fail
    go_region_held3 (fun W => (W.cell? ⟨w.heap.size, 0, none⟩ = some (.int .u8 (E : Int)) ∧ W.cell? ⟨w.heap.size, 1, none⟩ = some (.int .u8 (M : Int)) ∧ w.heap.size < W.heap.size ∧ Below w.heap.size w W) ∧ (W.cell? ⟨(w.heap.size + 1), 0, none⟩ = some (.bool neg) ∧ W.cell? ⟨(w.heap.size + 1), 1, none⟩ = some (.slice a1 k1 c1) ∧ W.cell? ⟨(w.heap.size + 1), 2, none⟩ = some (.slice a2 k2 c2) ∧ (∀ o, W.frozen? ⟨(w.heap.size + 1), o, none⟩ = false) ∧ (w.heap.size + 1) < W.heap.size) ∧ Kp w W)
      ((repeat' (first | with_reducible assumption | with_reducible refine rf_drew ?_)))
      ((first | (go_at_call 28; refine Calls.mono (HP0.out _) ?_; rintro _ wpa ⟨p1, p2, p3, q1, q2, q3, rfl, hN1, hN2, hb⟩; have hFpa := rf_next (by with_reducible assumption) hb; have HP1 : Hid (NatIs 2050 wpa (.slice p1 p2 p3) _) := hN1; have HP2 : Hid (NatIs 2050 wpa (.slice q1 q2 q3) _) := hN2; clear hb hN1 hN2) | (go_at_call 31; refine Calls.mono (HC0.out _ hFpa.2.2 _ _ _ _ _ _ HP1.out HP2.out) ?_; rintro _ wca ⟨rfl, hb⟩; have hFca := rf_next (by with_reducible assumption) hb; clear hb)))
    go_wp2_with fail
    go_ret
    exact ⟨rfl, hFca.1.2.2.2⟩
  | false =>
    rw [hg0] at z0
    cases hg1 : gePow n d (L - 1) with
    | false =>
      have HR : Hid (itB E M mo neg n d = true) := by show _ = _; rw [HRES.out, hg0, hg1]; rfl
      rw [HR.out]
      rw [hg1] at z1'
      clear h h1 h2 hd hn HRES HR hg0 hg1 hL
      generalize cmpZ (n * 2 ^ (-L).toNat) (2 ^ L.toNat * d) = Z0 at *
      generalize cmpZ (n * 2 ^ (-(L - 1)).toNat) (2 ^ (L - 1).toNat * d) = Z1 at *
      simp only [Bool.not_false] at z1'
      generalize biasN E = Bi at *
      go_enter Oajg.func81, Oajg.ntmps81
      go_wp2_with fail
      refine Calls.mono (HBI.out _) ?_
      rintro _ w1 ⟨rfl, hb⟩
      replace hF := rf_next hF hb
      clear hb
      go_wp2_with fail
      go_region_held3 (fun W => (W.cell? ⟨w.heap.size, 0, none⟩ = some (.int .u8 (E : Int)) ∧ W.cell? ⟨w.heap.size, 1, none⟩ = some (.int .u8 (M : Int)) ∧ w.heap.size < W.heap.size ∧ Below w.heap.size w W) ∧ (W.cell? ⟨(w.heap.size + 1), 0, none⟩ = some (.bool neg) ∧ W.cell? ⟨(w.heap.size + 1), 1, none⟩ = some (.slice a1 k1 c1) ∧ W.cell? ⟨(w.heap.size + 1), 2, none⟩ = some (.slice a2 k2 c2) ∧ (∀ o, W.frozen? ⟨(w.heap.size + 1), o, none⟩ = false) ∧ (w.heap.size + 1) < W.heap.size) ∧ Kp w W)
        ((repeat' (first | with_reducible assumption | with_reducible refine rf_drew ?_)))
        ((first | (go_at_call 28; refine Calls.mono (HP0.out _) ?_; rintro _ wpa ⟨p1, p2, p3, q1, q2, q3, rfl, hN1, hN2, hb⟩; have hFpa := rf_next (by with_reducible assumption) hb; have HP1 : Hid (NatIs 2050 wpa (.slice p1 p2 p3) _) := hN1; have HP2 : Hid (NatIs 2050 wpa (.slice q1 q2 q3) _) := hN2; clear hb hN1 hN2) | (go_at_call 31; refine Calls.mono (HC0.out _ hFpa.2.2 _ _ _ _ _ _ HP1.out HP2.out) ?_; rintro _ wca ⟨rfl, hb⟩; have hFca := rf_next (by with_reducible assumption) hb; clear hb)))
      clear hF hFpa HP1 HP2
      go_wp2_with fail
      go_region_held3 (fun W => (W.cell? ⟨w.heap.size, 0, none⟩ = some (.int .u8 (E : Int)) ∧ W.cell? ⟨w.heap.size, 1, none⟩ = some (.int .u8 (M : Int)) ∧ w.heap.size < W.heap.size ∧ Below w.heap.size w W) ∧ (W.cell? ⟨(w.heap.size + 1), 0, none⟩ = some (.bool neg) ∧ W.cell? ⟨(w.heap.size + 1), 1, none⟩ = some (.slice a1 k1 c1) ∧ W.cell? ⟨(w.heap.size + 1), 2, none⟩ = some (.slice a2 k2 c2) ∧ (∀ o, W.frozen? ⟨(w.heap.size + 1), o, none⟩ = false) ∧ (w.heap.size + 1) < W.heap.size) ∧ Kp w W)
        ((repeat' (first | with_reducible assumption | with_reducible refine rf_drew ?_)))
        ((first | (go_at_call 28; refine Calls.mono (HPm.out _) ?_; rintro _ wpb ⟨p1, p2, p3, q1, q2, q3, rfl, hN1, hN2, hb⟩; have hFpb := rf_next (by with_reducible assumption) hb; have HP1 : Hid (NatIs 2050 wpb (.slice p1 p2 p3) _) := hN1; have HP2 : Hid (NatIs 2050 wpb (.slice q1 q2 q3) _) := hN2; clear hb hN1 hN2) | (go_at_call 31; refine Calls.mono (HCm.out _ hFpb.2.2 _ _ _ _ _ _ HP1.out HP2.out) ?_; rintro _ wcb ⟨rfl, hb⟩; have hFcb := rf_next (by with_reducible assumption) hb; clear hb)))
      go_wp2_with fail
      go_ret
      exact ⟨rfl, hFcb.1.2.2.2⟩
    | true =>
      have HPone : Hid (∀ W, Calls Oajg.prog 28 #[.int .i64 1] W fun e w' => ∃ a1 k1 c1 a2 k2 c2, e = .returned (.agg #[.bool false, .slice a1 k1 c1, .slice a2 k2 c2]) ∧ NatIs 2050 w' (.slice a1 k1 c1) 2 ∧ NatIs 2050 w' (.slice a2 k2 c2) 1 ∧ Below W.heap.size W w') := fun W => pow2L_ok 1 (by decide) (by decide) W
      obtain ⟨BB, hBB⟩ : ∃ BB, BB = B + 2050 + (B + 2050) := ⟨_, rfl⟩
      have HMF : Hid (∀ W, ((W.cell? ⟨w.heap.size, 0, none⟩ = some (.int .u8 (E : Int)) ∧ W.cell? ⟨w.heap.size, 1, none⟩ = some (.int .u8 (M : Int)) ∧ w.heap.size < W.heap.size ∧ Below w.heap.size w W) ∧ (W.cell? ⟨(w.heap.size + 1), 0, none⟩ = some (.bool neg) ∧ W.cell? ⟨(w.heap.size + 1), 1, none⟩ = some (.slice a1 k1 c1) ∧ W.cell? ⟨(w.heap.size + 1), 2, none⟩ = some (.slice a2 k2 c2) ∧ (∀ o, W.frozen? ⟨(w.heap.size + 1), o, none⟩ = false) ∧ (w.heap.size + 1) < W.heap.size)) → ∀ p1 p2 p3 q1 q2 q3, NatIs 2050 W (.slice p1 p2 p3) 2 → NatIs 2050 W (.slice q1 q2 q3) 1 → Calls Oajg.prog 27 #[.agg #[.bool neg, .slice a1 k1 c1, .slice a2 k2 c2], .agg #[.bool false, .slice p1 p2 p3, .slice q1 q2 q3]] W fun e w' => ∃ b1 l1 e1 b2 l2 e2, e = .returned (.agg #[.bool neg, .slice b1 l1 e1, .slice b2 l2 e2]) ∧ NatIs BB w' (.slice b1 l1 e1) (n * 2) ∧ NatIs BB w' (.slice b2 l2 e2) d ∧ Below W.heap.size W w') := fun W hW p1 p2 p3 q1 q2 q3 hp hq => by
        have hk := Kp.of hW.1.2.2.2
        have := mulFrac_ok neg false a1 a2 p1 q1 k1 c1 k2 c2 p2 p3 q2 q3 (B + 2050) n d 2 1 W ((h1.kp hk).mono (by omega)) ((h2.kp hk).mono (by omega)) (hp.mono (by omega)) (hq.mono (by omega)) (by omega)
        rw [Nat.mul_one, show (neg != false) = neg from by cases neg <;> rfl, ← hBB] at this
        exact this
      obtain ⟨X2, hX2⟩ : ∃ X2, X2 = rfN E M mo neg (n * 2) d := ⟨_, rfl⟩
      have HRN : Hid (∀ W b1 l1 e1 b2 l2 e2, NatIs BB W (.slice b1 l1 e1) (n * 2) → NatIs BB W (.slice b2 l2 e2) d → Calls Oajg.prog 29 #[.agg #[.int .u8 (E : Int), .int .u8 (M : Int)], .int .u8 (mo : Int), .agg #[.bool neg, .slice b1 l1 e1, .slice b2 l2 e2]] W fun e w' => e = .returned (.int .u64 (X2 : Nat)) ∧ Below W.heap.size W w') := fun W b1 l1 e1 b2 l2 e2 hx hy => by
        have := roundL_ok E M h mo neg BB (n * 2) d b1 b2 l1 e1 l2 e2 W hx hy (by omega) hd
        rw [← hX2] at this
        exact this
      have hX64 : X2 < 18446744073709551616 := by rw [hX2]; exact rfN_64 h
      obtain ⟨VNUM, hVNUM⟩ : ∃ V, V = vNum E M X2 := ⟨_, rfl⟩
      obtain ⟨VDEN, hVDEN⟩ : ∃ V, V = vDen E M X2 := ⟨_, rfl⟩
      obtain ⟨VN, hVN⟩ : ∃ V, V = vN E M X2 := ⟨_, rfl⟩
      obtain ⟨VC, hVC⟩ : ∃ V, V = upC E M X2 := ⟨_, rfl⟩
      have HVA : Hid (∀ W, Calls Oajg.prog 26 #[.agg #[.int .u8 (E : Int), .int .u8 (M : Int)], .int .u64 (X2 : Int)] W fun e w' => ∃ a1 k1 c1 a2 k2 c2, e = .returned (.tuple #[.agg #[.bool VN, .slice a1 k1 c1, .slice a2 k2 c2], .int .i8 VC]) ∧ NatIs 2050 w' (.slice a1 k1 c1) VNUM ∧ NatIs 2050 w' (.slice a2 k2 c2) VDEN ∧ Below W.heap.size W w') := fun W => by
        have := value_ok E M h X2 hX64 W
        rw [← hVNUM, ← hVDEN, ← hVN, ← hVC] at this
        exact this
      have HPp : Hid (∀ W, Calls Oajg.prog 28 #[.int .i64 (L + 1)] W fun e w' => ∃ a1 k1 c1 a2 k2 c2, e = .returned (.agg #[.bool false, .slice a1 k1 c1, .slice a2 k2 c2]) ∧ NatIs 2050 w' (.slice a1 k1 c1) (2 ^ (L + 1 : Int).toNat) ∧ NatIs 2050 w' (.slice a2 k2 c2) (2 ^ (-(L + 1) : Int).toNat) ∧ Below W.heap.size W w') := fun W => pow2L_ok (L + 1) (by omega) (by omega) W
      obtain ⟨Z3, hZ3⟩ : ∃ Z3, Z3 = cmpZ (VNUM * 2 ^ (-(L + 1)).toNat) (2 ^ (L + 1).toNat * VDEN) := ⟨_, rfl⟩
      have HC3 : Hid (∀ W s1 t1 u1 s2 t2 u2 p1 p2 p3 q1 q2 q3, NatIs 2050 W (.slice s1 t1 u1) VNUM → NatIs 2050 W (.slice s2 t2 u2) VDEN → NatIs 2050 W (.slice p1 p2 p3) (2 ^ (L + 1 : Int).toNat) → NatIs 2050 W (.slice q1 q2 q3) (2 ^ (-(L + 1) : Int).toNat) → Calls Oajg.prog 31 #[.agg #[.bool VN, .slice s1 t1 u1, .slice s2 t2 u2], .agg #[.bool false, .slice p1 p2 p3, .slice q1 q2 q3]] W fun e w' => e = .returned (.int .i8 Z3) ∧ Below W.heap.size W w') := fun W s1 t1 u1 s2 t2 u2 p1 p2 p3 q1 q2 q3 hx hy hp hq => by
        have := cmpSize_ok VN false s1 s2 p1 q1 t1 u1 t2 u2 p2 p3 q2 q3 2050 VNUM VDEN _ _ W hx hy hp hq (by decide)
        rw [← hZ3] at this
        exact this
      have HR : Hid (itB E M mo neg n d = decide (Z3 < 0)) := by
        show _ = _
        rw [HRES.out, hg0, hg1, hZ3, cmpZ_lt0, cmpZ_gp, hVNUM, hVDEN, hX2]; rfl
      rw [HR.out]
      rw [hg1] at z1'
      simp only [Bool.not_true] at z1'
      clear h h1 h2 hd hn HRES HR hg0 hg1 hL hZ3 hVNUM hVDEN hVN hVC hX2 hBB
      generalize cmpZ (n * 2 ^ (-L).toNat) (2 ^ L.toNat * d) = Z0 at *
      generalize cmpZ (n * 2 ^ (-(L - 1)).toNat) (2 ^ (L - 1).toNat * d) = Z1 at *
      generalize biasN E = Bi at *
      go_enter Oajg.func81, Oajg.ntmps81
      go_wp2_with fail
      refine Calls.mono (HBI.out _) ?_
      rintro _ w1 ⟨rfl, hb⟩
      replace hF := rf_next hF hb
      clear hb
      go_wp2_with fail
      go_region_held3 (fun W => (W.cell? ⟨w.heap.size, 0, none⟩ = some (.int .u8 (E : Int)) ∧ W.cell? ⟨w.heap.size, 1, none⟩ = some (.int .u8 (M : Int)) ∧ w.heap.size < W.heap.size ∧ Below w.heap.size w W) ∧ (W.cell? ⟨(w.heap.size + 1), 0, none⟩ = some (.bool neg) ∧ W.cell? ⟨(w.heap.size + 1), 1, none⟩ = some (.slice a1 k1 c1) ∧ W.cell? ⟨(w.heap.size + 1), 2, none⟩ = some (.slice a2 k2 c2) ∧ (∀ o, W.frozen? ⟨(w.heap.size + 1), o, none⟩ = false) ∧ (w.heap.size + 1) < W.heap.size) ∧ Kp w W)
        ((repeat' (first | with_reducible assumption | with_reducible refine rf_drew ?_)))
        ((first | (go_at_call 28; refine Calls.mono (HP0.out _) ?_; rintro _ wpa ⟨p1, p2, p3, q1, q2, q3, rfl, hN1, hN2, hb⟩; have hFpa := rf_next (by with_reducible assumption) hb; have HP1 : Hid (NatIs 2050 wpa (.slice p1 p2 p3) _) := hN1; have HP2 : Hid (NatIs 2050 wpa (.slice q1 q2 q3) _) := hN2; clear hb hN1 hN2) | (go_at_call 31; refine Calls.mono (HC0.out _ hFpa.2.2 _ _ _ _ _ _ HP1.out HP2.out) ?_; rintro _ wca ⟨rfl, hb⟩; have hFca := rf_next (by with_reducible assumption) hb; clear hb)))
      clear hF hFpa HP1 HP2
      go_wp2_with fail
      go_region_held3 (fun W => (W.cell? ⟨w.heap.size, 0, none⟩ = some (.int .u8 (E : Int)) ∧ W.cell? ⟨w.heap.size, 1, none⟩ = some (.int .u8 (M : Int)) ∧ w.heap.size < W.heap.size ∧ Below w.heap.size w W) ∧ (W.cell? ⟨(w.heap.size + 1), 0, none⟩ = some (.bool neg) ∧ W.cell? ⟨(w.heap.size + 1), 1, none⟩ = some (.slice a1 k1 c1) ∧ W.cell? ⟨(w.heap.size + 1), 2, none⟩ = some (.slice a2 k2 c2) ∧ (∀ o, W.frozen? ⟨(w.heap.size + 1), o, none⟩ = false) ∧ (w.heap.size + 1) < W.heap.size) ∧ Kp w W)
        ((repeat' (first | with_reducible assumption | with_reducible refine rf_drew ?_)))
        ((first | (go_at_call 28; refine Calls.mono (HPm.out _) ?_; rintro _ wpb ⟨p1, p2, p3, q1, q2, q3, rfl, hN1, hN2, hb⟩; have hFpb := rf_next (by with_reducible assumption) hb; have HP1 : Hid (NatIs 2050 wpb (.slice p1 p2 p3) _) := hN1; have HP2 : Hid (NatIs 2050 wpb (.slice q1 q2 q3) _) := hN2; clear hb hN1 hN2) | (go_at_call 31; refine Calls.mono (HCm.out _ hFpb.2.2 _ _ _ _ _ _ HP1.out HP2.out) ?_; rintro _ wcb ⟨rfl, hb⟩; have hFcb := rf_next (by with_reducible assumption) hb; clear hb)))
      clear hFca hFpb HP1 HP2 HP0 HPm HC0 HCm z0 z1'
      have hE0 : (wcb.cell? ⟨w.heap.size, 0, none⟩ = some (.int .u8 (E : Int)) ∧ wcb.cell? ⟨w.heap.size, 1, none⟩ = some (.int .u8 (M : Int)) ∧ w.heap.size < wcb.heap.size ∧ Below w.heap.size w wcb) ∧ (wcb.cell? ⟨(w.heap.size + 1), 0, none⟩ = some (.bool neg) ∧ wcb.cell? ⟨(w.heap.size + 1), 1, none⟩ = some (.slice a1 k1 c1) ∧ wcb.cell? ⟨(w.heap.size + 1), 2, none⟩ = some (.slice a2 k2 c2) ∧ (∀ o, wcb.frozen? ⟨(w.heap.size + 1), o, none⟩ = false) ∧ (w.heap.size + 1) < wcb.heap.size) := ⟨hFcb.1, hFcb.2.1⟩
      clear hFcb
      have hn0 := hE0.2.2.2.2.2
      go_wp2_with fail
      go_cut [8] (fun s8 W => ∃ p s1 t1 u1 s2 t2 u2, s8 = .pointer (some ⟨p, 0, none⟩) ∧ w.heap.size + 1 < p ∧ (W.cell? ⟨p, 0, none⟩ = some (.bool VN) ∧ W.cell? ⟨p, 1, none⟩ = some (.slice s1 t1 u1) ∧ W.cell? ⟨p, 2, none⟩ = some (.slice s2 t2 u2) ∧ (∀ o, W.frozen? ⟨p, o, none⟩ = false) ∧ p < W.heap.size) ∧ ((W.cell? ⟨w.heap.size, 0, none⟩ = some (.int .u8 (E : Int)) ∧ W.cell? ⟨w.heap.size, 1, none⟩ = some (.int .u8 (M : Int)) ∧ w.heap.size < W.heap.size ∧ Below w.heap.size w W) ∧ (W.cell? ⟨(w.heap.size + 1), 0, none⟩ = some (.bool neg) ∧ W.cell? ⟨(w.heap.size + 1), 1, none⟩ = some (.slice a1 k1 c1) ∧ W.cell? ⟨(w.heap.size + 1), 2, none⟩ = some (.slice a2 k2 c2) ∧ (∀ o, W.frozen? ⟨(w.heap.size + 1), o, none⟩ = false) ∧ (w.heap.size + 1) < W.heap.size)) ∧ (∃ Wb, NatIs 2050 Wb (.slice s1 t1 u1) VNUM ∧ NatIs 2050 Wb (.slice s2 t2 u2) VDEN ∧ Kp Wb W))
      case first =>
        go_region_held3 (fun W => (W.cell? ⟨w.heap.size, 0, none⟩ = some (.int .u8 (E : Int)) ∧ W.cell? ⟨w.heap.size, 1, none⟩ = some (.int .u8 (M : Int)) ∧ w.heap.size < W.heap.size ∧ Below w.heap.size w W) ∧ (W.cell? ⟨(w.heap.size + 1), 0, none⟩ = some (.bool neg) ∧ W.cell? ⟨(w.heap.size + 1), 1, none⟩ = some (.slice a1 k1 c1) ∧ W.cell? ⟨(w.heap.size + 1), 2, none⟩ = some (.slice a2 k2 c2) ∧ (∀ o, W.frozen? ⟨(w.heap.size + 1), o, none⟩ = false) ∧ (w.heap.size + 1) < W.heap.size)) ((repeat' (first | with_reducible assumption | with_reducible refine re_drew ?_ | with_reducible refine re_alloc ?_ _ | with_reducible refine re_store ?_ ?_ | (simp only [World.size_alloc, World.size_drew, World.size_setCell]; omega) | omega))) ((first | (go_at_call 28; refine Calls.mono (HPone.out _) ?_; rintro _ wp ⟨p1, p2, p3, q1, q2, q3, rfl, hN1, hN2, hb⟩; have hEwp := re_next (by with_reducible assumption) hb; have hnwp := hEwp.2.2.2.2.2; have hzn := hb.size; obtain ⟨hc, hf, hz⟩ := bfacts2 hb; (try simp only [World.size_alloc, World.size_drew] at hc hf hz hzn); (try have hqwpwcb : wcb.heap.size < wp.heap.size := by omega); (try have hrwpwcb : w.heap.size + 1 < wcb.heap.size := by omega); have HO1 : Hid (NatIs 2050 wp (.slice p1 p2 p3) 2) := hN1; have HO2 : Hid (NatIs 2050 wp (.slice q1 q2 q3) 1) := hN2; clear hb hN1 hN2) | (go_at_call 27; (with_reducible refine Calls.mono (HMF.out _ ?hh _ _ _ _ _ _ ?ha ?hb2) ?_); (case hh => with_reducible assumption); (case ha => exact HO1.out.kp (by first | with_reducible exact Kp.refl _ | with_reducible exact (Kp.refl _).alloc _ | with_reducible exact (Kp.refl _).drew | with_reducible exact ((Kp.refl _).alloc _).drew)); (case hb2 => exact HO2.out.kp (by first | with_reducible exact Kp.refl _ | with_reducible exact (Kp.refl _).alloc _ | with_reducible exact (Kp.refl _).drew | with_reducible exact ((Kp.refl _).alloc _).drew)); rintro _ wm ⟨b1, l1, e1, b2, l2, e2, rfl, hN1, hN2, hb⟩; have hEwm := re_next (by with_reducible assumption) hb; have hnwm := hEwm.2.2.2.2.2; have hzn := hb.size; obtain ⟨hc, hf, hz⟩ := bfacts2 hb; (try simp only [World.size_alloc, World.size_drew] at hc hf hz hzn); (try have hqwmwcb : wcb.heap.size < wm.heap.size := by omega); (try have hrwmwcb : w.heap.size + 1 < wcb.heap.size := by omega); (try have hqwmwp : wp.heap.size < wm.heap.size := by omega); (try have hrwmwp : w.heap.size + 1 < wp.heap.size := by omega); have HM1 : Hid (NatIs BB wm (.slice b1 l1 e1) (n * 2)) := hN1; have HM2 : Hid (NatIs BB wm (.slice b2 l2 e2) d) := hN2; clear hb hN1 hN2) | (go_at_call 29; (with_reducible refine Calls.mono (HRN.out _ _ _ _ _ _ _ ?ha ?hb2) ?_); (case ha => exact HM1.out.kp (by first | with_reducible exact Kp.refl _ | with_reducible exact (Kp.refl _).alloc _ | with_reducible exact (Kp.refl _).drew | with_reducible exact ((Kp.refl _).alloc _).drew)); (case hb2 => exact HM2.out.kp (by first | with_reducible exact Kp.refl _ | with_reducible exact (Kp.refl _).alloc _ | with_reducible exact (Kp.refl _).drew | with_reducible exact ((Kp.refl _).alloc _).drew)); rintro _ wr ⟨rfl, hb⟩; have hEwr := re_next (by with_reducible assumption) hb; have hnwr := hEwr.2.2.2.2.2; have hzn := hb.size; obtain ⟨hc, hf, hz⟩ := bfacts2 hb; (try simp only [World.size_alloc, World.size_drew] at hc hf hz hzn); (try have hqwrwcb : wcb.heap.size < wr.heap.size := by omega); (try have hrwrwcb : w.heap.size + 1 < wcb.heap.size := by omega); (try have hqwrwp : wp.heap.size < wr.heap.size := by omega); (try have hrwrwp : w.heap.size + 1 < wp.heap.size := by omega); (try have hqwrwm : wm.heap.size < wr.heap.size := by omega); (try have hrwrwm : w.heap.size + 1 < wm.heap.size := by omega); clear hb) | (go_at_call 26; refine Calls.mono (HVA.out _) ?_; rintro _ wv ⟨s1, t1, u1, s2, t2, u2, rfl, hN1, hN2, hb⟩; have hEwv := re_next (by with_reducible assumption) hb; have hnwv := hEwv.2.2.2.2.2; have hzn := hb.size; obtain ⟨hc, hf, hz⟩ := bfacts2 hb; (try simp only [World.size_alloc, World.size_drew] at hc hf hz hzn); (try have hqwvwcb : wcb.heap.size < wv.heap.size := by omega); (try have hrwvwcb : w.heap.size + 1 < wcb.heap.size := by omega); (try have hqwvwp : wp.heap.size < wv.heap.size := by omega); (try have hrwvwp : w.heap.size + 1 < wp.heap.size := by omega); (try have hqwvwm : wm.heap.size < wv.heap.size := by omega); (try have hrwvwm : w.heap.size + 1 < wm.heap.size := by omega); (try have hqwvwr : wr.heap.size < wv.heap.size := by omega); (try have hrwvwr : w.heap.size + 1 < wr.heap.size := by omega); have HV1 : Hid (NatIs 2050 wv (.slice s1 t1 u1) VNUM) := hN1; have HV2 : Hid (NatIs 2050 wv (.slice s2 t2 u2) VDEN) := hN2; clear hb hN1 hN2)))
        all_goals go_wp2_with fail
        all_goals go_meet
        all_goals refine ⟨_, _, _, _, _, _, _, rfl, ?_, ⟨?_, ?_, ?_, ?_, ?_⟩, ?_, ⟨wv, HV1.out, HV2.out, ?_⟩⟩
        all_goals try (first
          | with_reducible assumption
          | omega
          | (simp only [World.size_alloc, World.size_drew, World.size_setCell]; omega)
          | (simp [*, go_sem]; done)
          | (intro o; simp [*, go_sem]; done))
        all_goals repeat' (first
              | with_reducible exact Kp.refl _
              | with_reducible refine Kp.alloc ?_ _
              | with_reducible refine Kp.drew ?_
              | with_reducible refine Kp.setCell (p := ⟨_, 0, none⟩) (u := .bool false) ?_ (by simp [*, go_sem]; done) (not32_bool _)
              | with_reducible refine Kp.setCell (p := ⟨_, 1, none⟩) (u := .slice none 0 0) ?_ (by simp [*, go_sem]; done) (not32_slice _ _ _)
              | with_reducible refine Kp.setCell (p := ⟨_, 2, none⟩) (u := .slice none 0 0) ?_ (by simp [*, go_sem]; done) (not32_slice _ _ _))
      case rest =>
        obtain ⟨p, s1, t1, u1, s2, t2, u2, rfl, hp, hP, hE, Wb, hV1, hV2, hk⟩ := hcut
        have HV1 : Hid (NatIs 2050 Wb (.slice s1 t1 u1) VNUM) := hV1
        have HV2 : Hid (NatIs 2050 Wb (.slice s2 t2 u2) VDEN) := hV2
        have hG := And.intro hE.1 (And.intro hE.2 (And.intro hk hP))
        clear hV1 hV2 hk hP hE hp HPone HMF HRN HVA hE0 hn0
        go_wp2_with fail
        go_region_held3 (fun W => (W.cell? ⟨w.heap.size, 0, none⟩ = some (.int .u8 (E : Int)) ∧ W.cell? ⟨w.heap.size, 1, none⟩ = some (.int .u8 (M : Int)) ∧ w.heap.size < W.heap.size ∧ Below w.heap.size w W) ∧ (W.cell? ⟨(w.heap.size + 1), 0, none⟩ = some (.bool neg) ∧ W.cell? ⟨(w.heap.size + 1), 1, none⟩ = some (.slice a1 k1 c1) ∧ W.cell? ⟨(w.heap.size + 1), 2, none⟩ = some (.slice a2 k2 c2) ∧ (∀ o, W.frozen? ⟨(w.heap.size + 1), o, none⟩ = false) ∧ (w.heap.size + 1) < W.heap.size) ∧ Kp Wb W ∧ (W.cell? ⟨p, 0, none⟩ = some (.bool VN) ∧ W.cell? ⟨p, 1, none⟩ = some (.slice s1 t1 u1) ∧ W.cell? ⟨p, 2, none⟩ = some (.slice s2 t2 u2) ∧ (∀ o, W.frozen? ⟨p, o, none⟩ = false) ∧ p < W.heap.size))
          ((repeat' (first | with_reducible assumption | with_reducible refine rh_drew ?_)))
          ((first | (go_at_call 28; refine Calls.mono (HPp.out _) ?_; rintro _ wx ⟨p1, p2, p3, q1, q2, q3, rfl, hN1, hN2, hb⟩; have hGx := rh_next (by with_reducible assumption) hb; have HP1 : Hid (NatIs 2050 wx (.slice p1 p2 p3) _) := hN1; have HP2 : Hid (NatIs 2050 wx (.slice q1 q2 q3) _) := hN2; clear hb hN1 hN2) | (go_at_call 31; refine Calls.mono (HC3.out _ _ _ _ _ _ _ _ _ _ _ _ _ (HV1.out.kp hGx.2.2.1) (HV2.out.kp hGx.2.2.1) HP1.out HP2.out) ?_; rintro _ wy ⟨rfl, hb⟩; have hGy := rh_next (by with_reducible assumption) hb; clear hb)))
        go_wp2_with fail
        go_ret
        exact ⟨rfl, hGy.1.2.2.2⟩


end Go.Proofs.Ygcoaj
