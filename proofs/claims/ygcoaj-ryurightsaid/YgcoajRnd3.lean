/-
  WALKS: exact.RoundFlags.
-/
import Derived.Test.YgcoajRnd2
import Derived.Test.YgcoajLgP
set_option linter.unusedVariables false
set_option linter.unusedSimpArgs false
namespace Go.Proofs.Ygcoaj
open Go.RowKit

theorem bx3_store {W : World} {n : Nat} {u0 u1 u2 : Value} (h : (W.cell? ⟨n, 0, none⟩ = some u0 ∧ W.cell? ⟨n, 1, none⟩ = some u1 ∧ W.cell? ⟨n, 2, none⟩ = some u2 ∧ (∀ o, W.frozen? ⟨n, o, none⟩ = false) ∧ n < W.heap.size)) (v0 v1 v2 : Value) : ((((W.setCell ⟨n, 0, none⟩ v0).setCell ⟨n, 1, none⟩ v1).setCell ⟨n, 2, none⟩ v2).cell? ⟨n, 0, none⟩ = some v0 ∧ (((W.setCell ⟨n, 0, none⟩ v0).setCell ⟨n, 1, none⟩ v1).setCell ⟨n, 2, none⟩ v2).cell? ⟨n, 1, none⟩ = some v1 ∧ (((W.setCell ⟨n, 0, none⟩ v0).setCell ⟨n, 1, none⟩ v1).setCell ⟨n, 2, none⟩ v2).cell? ⟨n, 2, none⟩ = some v2 ∧ (∀ o, (((W.setCell ⟨n, 0, none⟩ v0).setCell ⟨n, 1, none⟩ v1).setCell ⟨n, 2, none⟩ v2).frozen? ⟨n, o, none⟩ = false) ∧ n < (((W.setCell ⟨n, 0, none⟩ v0).setCell ⟨n, 1, none⟩ v1).setCell ⟨n, 2, none⟩ v2).heap.size) := by
  have h1 : (W.setCell ⟨n, 0, none⟩ v0).cell? ⟨n, 1, none⟩ = some u1 := by rw [other _ _ (by simp)]; exact h.2.1
  have h2 : ((W.setCell ⟨n, 0, none⟩ v0).setCell ⟨n, 1, none⟩ v1).cell? ⟨n, 2, none⟩ = some u2 := by rw [other _ _ (by simp), other _ _ (by simp)]; exact h.2.2.1
  refine ⟨?_, ?_, ?_, fun o => ?_, ?_⟩
  · rw [other _ _ (by simp), other _ _ (by simp)]; exact World.cell?_setCell_same _ _ _ h.1
  · rw [other _ _ (by simp)]; exact World.cell?_setCell_same _ _ _ h1
  · exact World.cell?_setCell_same _ _ _ h2
  · rw [World.frozen?_setCell, World.frozen?_setCell, World.frozen?_setCell]; exact h.2.2.2.1 o
  · simp only [World.size_setCell]; exact h.2.2.2.2

theorem rf_next {w W W' A : World} {b E M m : Nat} {x0 x1 x2 : Value} (h : (W.cell? ⟨b, 0, none⟩ = some (.int .u8 (E : Int)) ∧ W.cell? ⟨b, 1, none⟩ = some (.int .u8 (M : Int)) ∧ b < W.heap.size ∧ Below w.heap.size w W) ∧ (W.cell? ⟨m, 0, none⟩ = some x0 ∧ W.cell? ⟨m, 1, none⟩ = some x1 ∧ W.cell? ⟨m, 2, none⟩ = some x2 ∧ (∀ o, W.frozen? ⟨m, o, none⟩ = false) ∧ m < W.heap.size) ∧ Kp A W) (hb : Below W.heap.size W W') : (W'.cell? ⟨b, 0, none⟩ = some (.int .u8 (E : Int)) ∧ W'.cell? ⟨b, 1, none⟩ = some (.int .u8 (M : Int)) ∧ b < W'.heap.size ∧ Below w.heap.size w W') ∧ (W'.cell? ⟨m, 0, none⟩ = some x0 ∧ W'.cell? ⟨m, 1, none⟩ = some x1 ∧ W'.cell? ⟨m, 2, none⟩ = some x2 ∧ (∀ o, W'.frozen? ⟨m, o, none⟩ = false) ∧ m < W'.heap.size) ∧ Kp A W' := ⟨sf_next h.1 hb, bx3_next h.2.1 hb, h.2.2.trans (Kp.of hb)⟩
theorem rf_drew {w W A : World} {b E M m : Nat} {x0 x1 x2 : Value} (h : (W.cell? ⟨b, 0, none⟩ = some (.int .u8 (E : Int)) ∧ W.cell? ⟨b, 1, none⟩ = some (.int .u8 (M : Int)) ∧ b < W.heap.size ∧ Below w.heap.size w W) ∧ (W.cell? ⟨m, 0, none⟩ = some x0 ∧ W.cell? ⟨m, 1, none⟩ = some x1 ∧ W.cell? ⟨m, 2, none⟩ = some x2 ∧ (∀ o, W.frozen? ⟨m, o, none⟩ = false) ∧ m < W.heap.size) ∧ Kp A W) : (W.drew.cell? ⟨b, 0, none⟩ = some (.int .u8 (E : Int)) ∧ W.drew.cell? ⟨b, 1, none⟩ = some (.int .u8 (M : Int)) ∧ b < W.drew.heap.size ∧ Below w.heap.size w W.drew) ∧ (W.drew.cell? ⟨m, 0, none⟩ = some x0 ∧ W.drew.cell? ⟨m, 1, none⟩ = some x1 ∧ W.drew.cell? ⟨m, 2, none⟩ = some x2 ∧ (∀ o, W.drew.frozen? ⟨m, o, none⟩ = false) ∧ m < W.drew.heap.size) ∧ Kp A W.drew := ⟨sf_drew h.1, bx3_drew h.2.1, h.2.2.drew⟩
theorem rg_next {w W W' A : World} {b E M m : Nat} {x0 x1 x2 : Value} {q : Nat} {y0 y1 : Value} (h : (W.cell? ⟨b, 0, none⟩ = some (.int .u8 (E : Int)) ∧ W.cell? ⟨b, 1, none⟩ = some (.int .u8 (M : Int)) ∧ b < W.heap.size ∧ Below w.heap.size w W) ∧ (W.cell? ⟨m, 0, none⟩ = some x0 ∧ W.cell? ⟨m, 1, none⟩ = some x1 ∧ W.cell? ⟨m, 2, none⟩ = some x2 ∧ (∀ o, W.frozen? ⟨m, o, none⟩ = false) ∧ m < W.heap.size) ∧ Kp A W ∧ (W.cell? ⟨q, 0, none⟩ = some y0 ∧ W.cell? ⟨q, 1, none⟩ = some y1 ∧ (∀ o, W.frozen? ⟨q, o, none⟩ = false) ∧ q < W.heap.size)) (hb : Below W.heap.size W W') : (W'.cell? ⟨b, 0, none⟩ = some (.int .u8 (E : Int)) ∧ W'.cell? ⟨b, 1, none⟩ = some (.int .u8 (M : Int)) ∧ b < W'.heap.size ∧ Below w.heap.size w W') ∧ (W'.cell? ⟨m, 0, none⟩ = some x0 ∧ W'.cell? ⟨m, 1, none⟩ = some x1 ∧ W'.cell? ⟨m, 2, none⟩ = some x2 ∧ (∀ o, W'.frozen? ⟨m, o, none⟩ = false) ∧ m < W'.heap.size) ∧ Kp A W' ∧ (W'.cell? ⟨q, 0, none⟩ = some y0 ∧ W'.cell? ⟨q, 1, none⟩ = some y1 ∧ (∀ o, W'.frozen? ⟨q, o, none⟩ = false) ∧ q < W'.heap.size) := ⟨sf_next h.1 hb, bx3_next h.2.1 hb, h.2.2.1.trans (Kp.of hb), bx2_next h.2.2.2 hb⟩
theorem rg_drew {w W A : World} {b E M m : Nat} {x0 x1 x2 : Value} {q : Nat} {y0 y1 : Value} (h : (W.cell? ⟨b, 0, none⟩ = some (.int .u8 (E : Int)) ∧ W.cell? ⟨b, 1, none⟩ = some (.int .u8 (M : Int)) ∧ b < W.heap.size ∧ Below w.heap.size w W) ∧ (W.cell? ⟨m, 0, none⟩ = some x0 ∧ W.cell? ⟨m, 1, none⟩ = some x1 ∧ W.cell? ⟨m, 2, none⟩ = some x2 ∧ (∀ o, W.frozen? ⟨m, o, none⟩ = false) ∧ m < W.heap.size) ∧ Kp A W ∧ (W.cell? ⟨q, 0, none⟩ = some y0 ∧ W.cell? ⟨q, 1, none⟩ = some y1 ∧ (∀ o, W.frozen? ⟨q, o, none⟩ = false) ∧ q < W.heap.size)) : (W.drew.cell? ⟨b, 0, none⟩ = some (.int .u8 (E : Int)) ∧ W.drew.cell? ⟨b, 1, none⟩ = some (.int .u8 (M : Int)) ∧ b < W.drew.heap.size ∧ Below w.heap.size w W.drew) ∧ (W.drew.cell? ⟨m, 0, none⟩ = some x0 ∧ W.drew.cell? ⟨m, 1, none⟩ = some x1 ∧ W.drew.cell? ⟨m, 2, none⟩ = some x2 ∧ (∀ o, W.drew.frozen? ⟨m, o, none⟩ = false) ∧ m < W.drew.heap.size) ∧ Kp A W.drew ∧ (W.drew.cell? ⟨q, 0, none⟩ = some y0 ∧ W.drew.cell? ⟨q, 1, none⟩ = some y1 ∧ (∀ o, W.drew.frozen? ⟨q, o, none⟩ = false) ∧ q < W.drew.heap.size) := ⟨sf_drew h.1, bx3_drew h.2.1, h.2.2.1.drew, bx2_drew h.2.2.2⟩
theorem rg_made {w W A : World} {b E M m : Nat} {x0 x1 x2 : Value} (t : Nat) (h : (W.cell? ⟨b, 0, none⟩ = some (.int .u8 (E : Int)) ∧ W.cell? ⟨b, 1, none⟩ = some (.int .u8 (M : Int)) ∧ b < W.heap.size ∧ Below w.heap.size w W) ∧ (W.cell? ⟨m, 0, none⟩ = some x0 ∧ W.cell? ⟨m, 1, none⟩ = some x1 ∧ W.cell? ⟨m, 2, none⟩ = some x2 ∧ (∀ o, W.frozen? ⟨m, o, none⟩ = false) ∧ m < W.heap.size) ∧ Kp A W) (y0 y1 : Value) : ((W.alloc (.cells #[y0, y1] t)).cell? ⟨b, 0, none⟩ = some (.int .u8 (E : Int)) ∧ (W.alloc (.cells #[y0, y1] t)).cell? ⟨b, 1, none⟩ = some (.int .u8 (M : Int)) ∧ b < (W.alloc (.cells #[y0, y1] t)).heap.size ∧ Below w.heap.size w (W.alloc (.cells #[y0, y1] t))) ∧ ((W.alloc (.cells #[y0, y1] t)).cell? ⟨m, 0, none⟩ = some x0 ∧ (W.alloc (.cells #[y0, y1] t)).cell? ⟨m, 1, none⟩ = some x1 ∧ (W.alloc (.cells #[y0, y1] t)).cell? ⟨m, 2, none⟩ = some x2 ∧ (∀ o, (W.alloc (.cells #[y0, y1] t)).frozen? ⟨m, o, none⟩ = false) ∧ m < (W.alloc (.cells #[y0, y1] t)).heap.size) ∧ Kp (W.alloc (.cells #[y0, y1] t)) (W.alloc (.cells #[y0, y1] t)) ∧ ((W.alloc (.cells #[y0, y1] t)).cell? ⟨W.heap.size, 0, none⟩ = some y0 ∧ (W.alloc (.cells #[y0, y1] t)).cell? ⟨W.heap.size, 1, none⟩ = some y1 ∧ (∀ o, (W.alloc (.cells #[y0, y1] t)).frozen? ⟨W.heap.size, o, none⟩ = false) ∧ W.heap.size < (W.alloc (.cells #[y0, y1] t)).heap.size) :=
  ⟨sf_alloc h.1 _, bx3_alloc h.2.1 _, Kp.refl _, bx2_made W (m := W.heap.size) y0 y1 t rfl⟩
theorem rg_base {w W A : World} {b E M m : Nat} {x0 x1 x2 : Value} {q : Nat} {y0 y1 : Value} (h : (W.cell? ⟨b, 0, none⟩ = some (.int .u8 (E : Int)) ∧ W.cell? ⟨b, 1, none⟩ = some (.int .u8 (M : Int)) ∧ b < W.heap.size ∧ Below w.heap.size w W) ∧ (W.cell? ⟨m, 0, none⟩ = some x0 ∧ W.cell? ⟨m, 1, none⟩ = some x1 ∧ W.cell? ⟨m, 2, none⟩ = some x2 ∧ (∀ o, W.frozen? ⟨m, o, none⟩ = false) ∧ m < W.heap.size) ∧ Kp A W ∧ (W.cell? ⟨q, 0, none⟩ = some y0 ∧ W.cell? ⟨q, 1, none⟩ = some y1 ∧ (∀ o, W.frozen? ⟨q, o, none⟩ = false) ∧ q < W.heap.size)) : (W.cell? ⟨b, 0, none⟩ = some (.int .u8 (E : Int)) ∧ W.cell? ⟨b, 1, none⟩ = some (.int .u8 (M : Int)) ∧ b < W.heap.size ∧ Below w.heap.size w W) ∧ (W.cell? ⟨m, 0, none⟩ = some x0 ∧ W.cell? ⟨m, 1, none⟩ = some x1 ∧ W.cell? ⟨m, 2, none⟩ = some x2 ∧ (∀ o, W.frozen? ⟨m, o, none⟩ = false) ∧ m < W.heap.size) ∧ Kp W W ∧ (W.cell? ⟨q, 0, none⟩ = some y0 ∧ W.cell? ⟨q, 1, none⟩ = some y1 ∧ (∀ o, W.frozen? ⟨q, o, none⟩ = false) ∧ q < W.heap.size) := ⟨h.1, h.2.1, Kp.refl _, h.2.2.2⟩
theorem rg_alloc {w W A : World} {b E M m : Nat} {x0 x1 x2 : Value} {q : Nat} {y0 y1 : Value} (h : (W.cell? ⟨b, 0, none⟩ = some (.int .u8 (E : Int)) ∧ W.cell? ⟨b, 1, none⟩ = some (.int .u8 (M : Int)) ∧ b < W.heap.size ∧ Below w.heap.size w W) ∧ (W.cell? ⟨m, 0, none⟩ = some x0 ∧ W.cell? ⟨m, 1, none⟩ = some x1 ∧ W.cell? ⟨m, 2, none⟩ = some x2 ∧ (∀ o, W.frozen? ⟨m, o, none⟩ = false) ∧ m < W.heap.size) ∧ Kp A W ∧ (W.cell? ⟨q, 0, none⟩ = some y0 ∧ W.cell? ⟨q, 1, none⟩ = some y1 ∧ (∀ o, W.frozen? ⟨q, o, none⟩ = false) ∧ q < W.heap.size)) (ob : Obj) : ((W.alloc ob).cell? ⟨b, 0, none⟩ = some (.int .u8 (E : Int)) ∧ (W.alloc ob).cell? ⟨b, 1, none⟩ = some (.int .u8 (M : Int)) ∧ b < (W.alloc ob).heap.size ∧ Below w.heap.size w (W.alloc ob)) ∧ ((W.alloc ob).cell? ⟨m, 0, none⟩ = some x0 ∧ (W.alloc ob).cell? ⟨m, 1, none⟩ = some x1 ∧ (W.alloc ob).cell? ⟨m, 2, none⟩ = some x2 ∧ (∀ o, (W.alloc ob).frozen? ⟨m, o, none⟩ = false) ∧ m < (W.alloc ob).heap.size) ∧ Kp A (W.alloc ob) ∧ ((W.alloc ob).cell? ⟨q, 0, none⟩ = some y0 ∧ (W.alloc ob).cell? ⟨q, 1, none⟩ = some y1 ∧ (∀ o, (W.alloc ob).frozen? ⟨q, o, none⟩ = false) ∧ q < (W.alloc ob).heap.size) := rg_next h ((Below.refl _ _).alloc (Nat.le_refl _) ob)

/-- the exponent, held -/
def rfR (E n d : Nat) : Int := lg2 n d (1 - (biasN E : Int) - 1) (biasN E : Int)
def rfE (E n d : Nat) : Int := max (rfR E n d) (1 - (biasN E : Int))
def rfTop (mo : Nat) (neg : Bool) (n d : Nat) (k : Int) : Nat := rzN mo neg (n * 2 ^ k.toNat) (d * 2 ^ (-k).toNat)
def rfSm (n d : Nat) (k : Int) : Bool := smX (n * 2 ^ k.toNat) (d * 2 ^ (-k).toNat)
def rfTiny (E M mo : Nat) (neg : Bool) (n d : Nat) : Bool :=
  if rfR E n d = 1 - (biasN E : Int) - 1 then (bitLen (rfTop mo neg n d ((M : Int) - rfR E n d)) == M + 1) else decide (rfR E n d < 1 - (biasN E : Int))
/-- exact.RoundFlags, plain: the pattern and the exceptions -/
def rfN (E M mo : Nat) (neg : Bool) (n d : Nat) : Nat :=
  if n = 0 then sgnd E M neg 0 else
  if (biasN E : Int) < rfE E n d then ovN E M mo neg else
  pkN E M mo neg (rfE E n d - (1 - (biasN E : Int))).toNat (rfTop mo neg n d ((M : Int) - rfE E n d)) (rfSm n d ((M : Int) - rfE E n d)) (rfTiny E M mo neg n d)
def rfF (E M mo : Nat) (neg : Bool) (n d : Nat) : Nat :=
  if n = 0 then 0 else
  if (biasN E : Int) < rfE E n d then 20 else
  pkF E M (rfE E n d - (1 - (biasN E : Int))).toNat (rfTop mo neg n d ((M : Int) - rfE E n d)) (rfSm n d ((M : Int) - rfE E n d)) (rfTiny E M mo neg n d)

theorem rzN_le (mo : Nat) (neg : Bool) (n m : Nat) : rzN mo neg n m ≤ n / m + 1 := by unfold rzN; split <;> omega
theorem rfTop_le {E n d M mo : Nat} {neg : Bool} (hn : n ≠ 0) (hd : d ≠ 0) (hr : rfR E n d ≤ biasN E) {K : Int} (hK : (M : Int) - K ≥ rfR E n d) : rfTop mo neg n d K ≤ 2 ^ (M + 1) := by
  have h1 := quot_lt (n := n) (d := d) (M := M) (K := K) (R := rfR E n d) hd hK (fun a b h => lg2_up hn hd hr h)
  have h2 := rzN_le mo neg (n * 2 ^ K.toNat) (d * 2 ^ (-K).toNat)
  unfold rfTop
  omega
theorem lg2_range {n d : Nat} {lo hi : Int} (h : lo ≤ hi + 1) : lo - 1 ≤ lg2 n d lo hi ∧ lg2 n d lo hi ≤ hi + 1 := by
  unfold lg2
  split
  · omega
  · split
    · omega
    · split <;> omega

set_option maxRecDepth 100000 in
set_option maxHeartbeats 4000000 in
theorem roundFlags_zero (E M : Nat) (h : FOk E M) (mo : Nat) (neg : Bool) (B n d : Nat) (a1 a2 : Option Addr) (k1 c1 k2 c2 : Nat) (w : World) (h1 : NatIs B w (.slice a1 k1 c1) n) (h2 : NatIs B w (.slice a2 k2 c2) d) (hB : B ≤ 1000000) (hd : d ≠ 0) (hn : n = 0) :
    Calls Oajg.prog 67 #[.agg #[.int .u8 (E : Int), .int .u8 (M : Int)], .int .u8 (mo : Int), .agg #[.bool neg, .slice a1 k1 c1, .slice a2 k2 c2]] w fun e w' => e = .returned (.tuple #[.int .u64 (rfN E M mo neg n d : Nat), .int .u8 (rfF E M mo neg n d : Nat)]) ∧ Below w.heap.size w w' := by
  have hF0 : (((w.alloc (.cells #[.int .u8 (E : Int), .int .u8 (M : Int)] 23)).alloc (.cells #[.bool neg, .slice a1 k1 c1, .slice a2 k2 c2] 48)).cell? ⟨w.heap.size, 0, none⟩ = some (.int .u8 (E : Int)) ∧ ((w.alloc (.cells #[.int .u8 (E : Int), .int .u8 (M : Int)] 23)).alloc (.cells #[.bool neg, .slice a1 k1 c1, .slice a2 k2 c2] 48)).cell? ⟨w.heap.size, 1, none⟩ = some (.int .u8 (M : Int)) ∧ w.heap.size < ((w.alloc (.cells #[.int .u8 (E : Int), .int .u8 (M : Int)] 23)).alloc (.cells #[.bool neg, .slice a1 k1 c1, .slice a2 k2 c2] 48)).heap.size ∧ Below w.heap.size w ((w.alloc (.cells #[.int .u8 (E : Int), .int .u8 (M : Int)] 23)).alloc (.cells #[.bool neg, .slice a1 k1 c1, .slice a2 k2 c2] 48))) ∧ (((w.alloc (.cells #[.int .u8 (E : Int), .int .u8 (M : Int)] 23)).alloc (.cells #[.bool neg, .slice a1 k1 c1, .slice a2 k2 c2] 48)).cell? ⟨(w.heap.size + 1), 0, none⟩ = some (.bool neg) ∧ ((w.alloc (.cells #[.int .u8 (E : Int), .int .u8 (M : Int)] 23)).alloc (.cells #[.bool neg, .slice a1 k1 c1, .slice a2 k2 c2] 48)).cell? ⟨(w.heap.size + 1), 1, none⟩ = some (.slice a1 k1 c1) ∧ ((w.alloc (.cells #[.int .u8 (E : Int), .int .u8 (M : Int)] 23)).alloc (.cells #[.bool neg, .slice a1 k1 c1, .slice a2 k2 c2] 48)).cell? ⟨(w.heap.size + 1), 2, none⟩ = some (.slice a2 k2 c2) ∧ (∀ o, ((w.alloc (.cells #[.int .u8 (E : Int), .int .u8 (M : Int)] 23)).alloc (.cells #[.bool neg, .slice a1 k1 c1, .slice a2 k2 c2] 48)).frozen? ⟨(w.heap.size + 1), o, none⟩ = false) ∧ (w.heap.size + 1) < ((w.alloc (.cells #[.int .u8 (E : Int), .int .u8 (M : Int)] 23)).alloc (.cells #[.bool neg, .slice a1 k1 c1, .slice a2 k2 c2] 48)).heap.size) ∧ Kp w ((w.alloc (.cells #[.int .u8 (E : Int), .int .u8 (M : Int)] 23)).alloc (.cells #[.bool neg, .slice a1 k1 c1, .slice a2 k2 c2] 48)) :=
    ⟨sf_alloc (sf_box w E M) _, bx3_made (w.alloc (.cells #[.int .u8 (E : Int), .int .u8 (M : Int)] 23)) (m := w.heap.size + 1) _ _ _ 48 (by simp), ((Kp.refl w).alloc _).alloc _⟩
  have HO : Hid (∀ w, Calls Oajg.prog 17 #[.agg #[.int .u8 (E : Int), .int .u8 (M : Int)]] w fun e w' => e = .returned (.bool true) ∧ Below w.heap.size w w') := ok_yes h
  have HMR : Hid (∀ W, Kp w W → Calls Oajg.prog 118 #[.bool neg, .slice a1 k1 c1, .slice a2 k2 c2] W fun e w' => ∃ b1 l1 e1 b2 l2 e2, e = .returned (.agg #[.bool neg, .slice b1 l1 e1, .slice b2 l2 e2]) ∧ NatIs B w' (.slice b1 l1 e1) n ∧ NatIs B w' (.slice b2 l2 e2) d ∧ Below W.heap.size W w') := fun W hW => makeRat_ok neg B n d a1 a2 k1 c1 k2 c2 W (h1.kp hW) (h2.kp hW) (by omega) hd
  have HE : Hid (∀ w, Calls Oajg.prog 120 #[.agg #[.int .u8 (E : Int), .int .u8 (M : Int)]] w fun e w' => e = .returned (.int .i64 (1 - (biasN E : Int))) ∧ Below w.heap.size w w') := emin_ok E M h
  have HX : Hid (∀ w, Calls Oajg.prog 121 #[.agg #[.int .u8 (E : Int), .int .u8 (M : Int)]] w fun e w' => e = .returned (.int .i64 (biasN E : Nat)) ∧ Below w.heap.size w w') := emax_ok E M h
  have hnil := eql_nil
  have hbi := biasN_le h.e11
  have hM52 := h.m52
  have HZ : Hid (∀ w, Calls Oajg.prog 119 #[.agg #[.int .u8 (E : Int), .int .u8 (M : Int)], .bool neg] w fun e w' => e = .returned (.int .u64 (sgnd E M neg 0 : Nat)) ∧ Below w.heap.size w w') := zeroX_ok E M h neg
  have HR : Hid (rfN E M mo neg n d = sgnd E M neg 0 ∧ rfF E M mo neg n d = 0) := ⟨by unfold rfN; rw [if_pos hn], by unfold rfF; rw [if_pos hn]⟩
  have hn0 : (n == 0) = true := by simp [hn]
  rw [HR.out.1, HR.out.2]
  generalize sgnd E M neg 0 = Z at *
  clear h h1 h2 hn HR
  go_enter Oajg.func67, Oajg.ntmps67
  go_wp2_with fail
  refine Calls.mono (HO.out _) ?_
  rintro _ w1 ⟨rfl, hb⟩
  replace hF0 := rf_next hF0 hb
  clear hb HO
  go_wp2_with fail
  refine Calls.mono (HMR.out _ hF0.2.2) ?_
  rintro _ w2 ⟨b1, l1, e1, b2, l2, e2, rfl, hN1, hN2, hb⟩
  replace hF0 := rf_next hF0 hb
  have hkp := store3 hF0.2.1 (not32_bool _) (not32_slice _ _ _) (not32_slice _ _ _) (.bool neg) (.slice b1 l1 e1) (.slice b2 l2 e2)
  have hnn := hN1.none_eq
  have HN1 : Hid (NatIs B (((w2.setCell ⟨w.heap.size + 1, 0, none⟩ (.bool neg)).setCell ⟨w.heap.size + 1, 1, none⟩ (.slice b1 l1 e1)).setCell ⟨w.heap.size + 1, 2, none⟩ (.slice b2 l2 e2)) (.slice b1 l1 e1) n) := hN1.kp hkp
  have HN2 : Hid (NatIs B (((w2.setCell ⟨w.heap.size + 1, 0, none⟩ (.bool neg)).setCell ⟨w.heap.size + 1, 1, none⟩ (.slice b1 l1 e1)).setCell ⟨w.heap.size + 1, 2, none⟩ (.slice b2 l2 e2)) (.slice b2 l2 e2) d) := hN2.kp hkp
  have hF : ((((w2.setCell ⟨w.heap.size + 1, 0, none⟩ (.bool neg)).setCell ⟨w.heap.size + 1, 1, none⟩ (.slice b1 l1 e1)).setCell ⟨w.heap.size + 1, 2, none⟩ (.slice b2 l2 e2)).cell? ⟨w.heap.size, 0, none⟩ = some (.int .u8 (E : Int)) ∧ (((w2.setCell ⟨w.heap.size + 1, 0, none⟩ (.bool neg)).setCell ⟨w.heap.size + 1, 1, none⟩ (.slice b1 l1 e1)).setCell ⟨w.heap.size + 1, 2, none⟩ (.slice b2 l2 e2)).cell? ⟨w.heap.size, 1, none⟩ = some (.int .u8 (M : Int)) ∧ w.heap.size < (((w2.setCell ⟨w.heap.size + 1, 0, none⟩ (.bool neg)).setCell ⟨w.heap.size + 1, 1, none⟩ (.slice b1 l1 e1)).setCell ⟨w.heap.size + 1, 2, none⟩ (.slice b2 l2 e2)).heap.size ∧ Below w.heap.size w (((w2.setCell ⟨w.heap.size + 1, 0, none⟩ (.bool neg)).setCell ⟨w.heap.size + 1, 1, none⟩ (.slice b1 l1 e1)).setCell ⟨w.heap.size + 1, 2, none⟩ (.slice b2 l2 e2))) ∧ ((((w2.setCell ⟨w.heap.size + 1, 0, none⟩ (.bool neg)).setCell ⟨w.heap.size + 1, 1, none⟩ (.slice b1 l1 e1)).setCell ⟨w.heap.size + 1, 2, none⟩ (.slice b2 l2 e2)).cell? ⟨(w.heap.size + 1), 0, none⟩ = some (.bool neg) ∧ (((w2.setCell ⟨w.heap.size + 1, 0, none⟩ (.bool neg)).setCell ⟨w.heap.size + 1, 1, none⟩ (.slice b1 l1 e1)).setCell ⟨w.heap.size + 1, 2, none⟩ (.slice b2 l2 e2)).cell? ⟨(w.heap.size + 1), 1, none⟩ = some (.slice b1 l1 e1) ∧ (((w2.setCell ⟨w.heap.size + 1, 0, none⟩ (.bool neg)).setCell ⟨w.heap.size + 1, 1, none⟩ (.slice b1 l1 e1)).setCell ⟨w.heap.size + 1, 2, none⟩ (.slice b2 l2 e2)).cell? ⟨(w.heap.size + 1), 2, none⟩ = some (.slice b2 l2 e2) ∧ (∀ o, (((w2.setCell ⟨w.heap.size + 1, 0, none⟩ (.bool neg)).setCell ⟨w.heap.size + 1, 1, none⟩ (.slice b1 l1 e1)).setCell ⟨w.heap.size + 1, 2, none⟩ (.slice b2 l2 e2)).frozen? ⟨(w.heap.size + 1), o, none⟩ = false) ∧ (w.heap.size + 1) < (((w2.setCell ⟨w.heap.size + 1, 0, none⟩ (.bool neg)).setCell ⟨w.heap.size + 1, 1, none⟩ (.slice b1 l1 e1)).setCell ⟨w.heap.size + 1, 2, none⟩ (.slice b2 l2 e2)).heap.size) ∧ Kp (((w2.setCell ⟨w.heap.size + 1, 0, none⟩ (.bool neg)).setCell ⟨w.heap.size + 1, 1, none⟩ (.slice b1 l1 e1)).setCell ⟨w.heap.size + 1, 2, none⟩ (.slice b2 l2 e2)) (((w2.setCell ⟨w.heap.size + 1, 0, none⟩ (.bool neg)).setCell ⟨w.heap.size + 1, 1, none⟩ (.slice b1 l1 e1)).setCell ⟨w.heap.size + 1, 2, none⟩ (.slice b2 l2 e2)) :=
    ⟨sf_store (sf_store (sf_store hF0.1 ⟨Nat.le_succ _, Nat.ne_of_lt (Nat.lt_succ_self _)⟩) ⟨Nat.le_succ _, Nat.ne_of_lt (Nat.lt_succ_self _)⟩) ⟨Nat.le_succ _, Nat.ne_of_lt (Nat.lt_succ_self _)⟩, bx3_store hF0.2.1 _ _ _, Kp.refl _⟩
  clear hN1 hN2 hb hkp HMR
  rw [hn0] at hnn
  clear HE HX
  have hFz := hF0.2.1
  go_wp2_with fail
  clear hF0 hFz
  generalize (((w2.setCell ⟨w.heap.size + 1, 0, none⟩ (.bool neg)).setCell ⟨w.heap.size + 1, 1, none⟩ (.slice b1 l1 e1)).setCell ⟨w.heap.size + 1, 2, none⟩ (.slice b2 l2 e2)) = A at *
  refine Calls.mono (HZ.out _) ?_
  rintro _ w3 ⟨rfl, hb⟩
  replace hF := rf_next hF hb
  clear hb
  go_wp2_with fail
  go_ret2
  exact ⟨rfl, hF.1.2.2.2⟩

set_option maxRecDepth 100000 in
set_option maxHeartbeats 4000000 in
theorem roundFlags_over (E M : Nat) (h : FOk E M) (mo : Nat) (neg : Bool) (B n d : Nat) (a1 a2 : Option Addr) (k1 c1 k2 c2 : Nat) (w : World) (h1 : NatIs B w (.slice a1 k1 c1) n) (h2 : NatIs B w (.slice a2 k2 c2) d) (hB : B ≤ 1000000) (hd : d ≠ 0) (hn : n ≠ 0) (R : Int) (hR : rfR E n d = R) (hov : (biasN E : Int) < R) :
    Calls Oajg.prog 67 #[.agg #[.int .u8 (E : Int), .int .u8 (M : Int)], .int .u8 (mo : Int), .agg #[.bool neg, .slice a1 k1 c1, .slice a2 k2 c2]] w fun e w' => e = .returned (.tuple #[.int .u64 (rfN E M mo neg n d : Nat), .int .u8 (rfF E M mo neg n d : Nat)]) ∧ Below w.heap.size w w' := by
  have hF0 : (((w.alloc (.cells #[.int .u8 (E : Int), .int .u8 (M : Int)] 23)).alloc (.cells #[.bool neg, .slice a1 k1 c1, .slice a2 k2 c2] 48)).cell? ⟨w.heap.size, 0, none⟩ = some (.int .u8 (E : Int)) ∧ ((w.alloc (.cells #[.int .u8 (E : Int), .int .u8 (M : Int)] 23)).alloc (.cells #[.bool neg, .slice a1 k1 c1, .slice a2 k2 c2] 48)).cell? ⟨w.heap.size, 1, none⟩ = some (.int .u8 (M : Int)) ∧ w.heap.size < ((w.alloc (.cells #[.int .u8 (E : Int), .int .u8 (M : Int)] 23)).alloc (.cells #[.bool neg, .slice a1 k1 c1, .slice a2 k2 c2] 48)).heap.size ∧ Below w.heap.size w ((w.alloc (.cells #[.int .u8 (E : Int), .int .u8 (M : Int)] 23)).alloc (.cells #[.bool neg, .slice a1 k1 c1, .slice a2 k2 c2] 48))) ∧ (((w.alloc (.cells #[.int .u8 (E : Int), .int .u8 (M : Int)] 23)).alloc (.cells #[.bool neg, .slice a1 k1 c1, .slice a2 k2 c2] 48)).cell? ⟨(w.heap.size + 1), 0, none⟩ = some (.bool neg) ∧ ((w.alloc (.cells #[.int .u8 (E : Int), .int .u8 (M : Int)] 23)).alloc (.cells #[.bool neg, .slice a1 k1 c1, .slice a2 k2 c2] 48)).cell? ⟨(w.heap.size + 1), 1, none⟩ = some (.slice a1 k1 c1) ∧ ((w.alloc (.cells #[.int .u8 (E : Int), .int .u8 (M : Int)] 23)).alloc (.cells #[.bool neg, .slice a1 k1 c1, .slice a2 k2 c2] 48)).cell? ⟨(w.heap.size + 1), 2, none⟩ = some (.slice a2 k2 c2) ∧ (∀ o, ((w.alloc (.cells #[.int .u8 (E : Int), .int .u8 (M : Int)] 23)).alloc (.cells #[.bool neg, .slice a1 k1 c1, .slice a2 k2 c2] 48)).frozen? ⟨(w.heap.size + 1), o, none⟩ = false) ∧ (w.heap.size + 1) < ((w.alloc (.cells #[.int .u8 (E : Int), .int .u8 (M : Int)] 23)).alloc (.cells #[.bool neg, .slice a1 k1 c1, .slice a2 k2 c2] 48)).heap.size) ∧ Kp w ((w.alloc (.cells #[.int .u8 (E : Int), .int .u8 (M : Int)] 23)).alloc (.cells #[.bool neg, .slice a1 k1 c1, .slice a2 k2 c2] 48)) :=
    ⟨sf_alloc (sf_box w E M) _, bx3_made (w.alloc (.cells #[.int .u8 (E : Int), .int .u8 (M : Int)] 23)) (m := w.heap.size + 1) _ _ _ 48 (by simp), ((Kp.refl w).alloc _).alloc _⟩
  have HO : Hid (∀ w, Calls Oajg.prog 17 #[.agg #[.int .u8 (E : Int), .int .u8 (M : Int)]] w fun e w' => e = .returned (.bool true) ∧ Below w.heap.size w w') := ok_yes h
  have HMR : Hid (∀ W, Kp w W → Calls Oajg.prog 118 #[.bool neg, .slice a1 k1 c1, .slice a2 k2 c2] W fun e w' => ∃ b1 l1 e1 b2 l2 e2, e = .returned (.agg #[.bool neg, .slice b1 l1 e1, .slice b2 l2 e2]) ∧ NatIs B w' (.slice b1 l1 e1) n ∧ NatIs B w' (.slice b2 l2 e2) d ∧ Below W.heap.size W w') := fun W hW => makeRat_ok neg B n d a1 a2 k1 c1 k2 c2 W (h1.kp hW) (h2.kp hW) (by omega) hd
  have HE : Hid (∀ w, Calls Oajg.prog 120 #[.agg #[.int .u8 (E : Int), .int .u8 (M : Int)]] w fun e w' => e = .returned (.int .i64 (1 - (biasN E : Int))) ∧ Below w.heap.size w w') := emin_ok E M h
  have HX : Hid (∀ w, Calls Oajg.prog 121 #[.agg #[.int .u8 (E : Int), .int .u8 (M : Int)]] w fun e w' => e = .returned (.int .i64 (biasN E : Nat)) ∧ Below w.heap.size w w') := emax_ok E M h
  have hnil := eql_nil
  have hbi := biasN_le h.e11
  have hM52 := h.m52
  have hRb := lg2_range (n := n) (d := d) (lo := 1 - (biasN E : Int) - 1) (hi := (biasN E : Int)) (by have := biasN_pos h.e2; omega)
  have HRR : Hid (rfR E n d = R) := hR
  have hR' : lg2 n d (1 - (biasN E : Int) - 1) (biasN E : Int) = R := hR
  rw [hR'] at hRb
  obtain ⟨hRb1, hRb2⟩ := hRb
  have HV : Hid (∀ w, Calls Oajg.prog 122 #[.agg #[.int .u8 (E : Int), .int .u8 (M : Int)], .int .u8 (mo : Int), .bool neg] w fun e w' => e = .returned (.tuple #[.int .u64 (ovN E M mo neg : Nat), .int .u8 20]) ∧ Below w.heap.size w w') := overflowX_ok E M h mo neg
  have hE' : rfE E n d = R := by unfold rfE; rw [hR]; omega
  have HRES : Hid (rfN E M mo neg n d = ovN E M mo neg ∧ rfF E M mo neg n d = 20) := ⟨by unfold rfN; rw [if_neg hn, hE', if_pos hov], by unfold rfF; rw [if_neg hn, hE', if_pos hov]⟩
  have hn0 : (n == 0) = false := by simp [hn]
  have HLR : Hid (lg2 n d (1 - (biasN E : Int) - 1) (biasN E : Int) = R) := hR'
  rw [HRES.out.1, HRES.out.2]
  generalize ovN E M mo neg = OV at *
  generalize biasN E = Bi at *
  clear h h1 h2 hn HRES hE' HRR hR hR'
  go_enter Oajg.func67, Oajg.ntmps67
  go_wp2_with fail
  refine Calls.mono (HO.out _) ?_
  rintro _ w1 ⟨rfl, hb⟩
  replace hF0 := rf_next hF0 hb
  clear hb HO
  go_wp2_with fail
  refine Calls.mono (HMR.out _ hF0.2.2) ?_
  rintro _ w2 ⟨b1, l1, e1, b2, l2, e2, rfl, hN1, hN2, hb⟩
  replace hF0 := rf_next hF0 hb
  have hkp := store3 hF0.2.1 (not32_bool _) (not32_slice _ _ _) (not32_slice _ _ _) (.bool neg) (.slice b1 l1 e1) (.slice b2 l2 e2)
  have hnn := hN1.none_eq
  have HN1 : Hid (NatIs B (((w2.setCell ⟨w.heap.size + 1, 0, none⟩ (.bool neg)).setCell ⟨w.heap.size + 1, 1, none⟩ (.slice b1 l1 e1)).setCell ⟨w.heap.size + 1, 2, none⟩ (.slice b2 l2 e2)) (.slice b1 l1 e1) n) := hN1.kp hkp
  have HN2 : Hid (NatIs B (((w2.setCell ⟨w.heap.size + 1, 0, none⟩ (.bool neg)).setCell ⟨w.heap.size + 1, 1, none⟩ (.slice b1 l1 e1)).setCell ⟨w.heap.size + 1, 2, none⟩ (.slice b2 l2 e2)) (.slice b2 l2 e2) d) := hN2.kp hkp
  have hF : ((((w2.setCell ⟨w.heap.size + 1, 0, none⟩ (.bool neg)).setCell ⟨w.heap.size + 1, 1, none⟩ (.slice b1 l1 e1)).setCell ⟨w.heap.size + 1, 2, none⟩ (.slice b2 l2 e2)).cell? ⟨w.heap.size, 0, none⟩ = some (.int .u8 (E : Int)) ∧ (((w2.setCell ⟨w.heap.size + 1, 0, none⟩ (.bool neg)).setCell ⟨w.heap.size + 1, 1, none⟩ (.slice b1 l1 e1)).setCell ⟨w.heap.size + 1, 2, none⟩ (.slice b2 l2 e2)).cell? ⟨w.heap.size, 1, none⟩ = some (.int .u8 (M : Int)) ∧ w.heap.size < (((w2.setCell ⟨w.heap.size + 1, 0, none⟩ (.bool neg)).setCell ⟨w.heap.size + 1, 1, none⟩ (.slice b1 l1 e1)).setCell ⟨w.heap.size + 1, 2, none⟩ (.slice b2 l2 e2)).heap.size ∧ Below w.heap.size w (((w2.setCell ⟨w.heap.size + 1, 0, none⟩ (.bool neg)).setCell ⟨w.heap.size + 1, 1, none⟩ (.slice b1 l1 e1)).setCell ⟨w.heap.size + 1, 2, none⟩ (.slice b2 l2 e2))) ∧ ((((w2.setCell ⟨w.heap.size + 1, 0, none⟩ (.bool neg)).setCell ⟨w.heap.size + 1, 1, none⟩ (.slice b1 l1 e1)).setCell ⟨w.heap.size + 1, 2, none⟩ (.slice b2 l2 e2)).cell? ⟨(w.heap.size + 1), 0, none⟩ = some (.bool neg) ∧ (((w2.setCell ⟨w.heap.size + 1, 0, none⟩ (.bool neg)).setCell ⟨w.heap.size + 1, 1, none⟩ (.slice b1 l1 e1)).setCell ⟨w.heap.size + 1, 2, none⟩ (.slice b2 l2 e2)).cell? ⟨(w.heap.size + 1), 1, none⟩ = some (.slice b1 l1 e1) ∧ (((w2.setCell ⟨w.heap.size + 1, 0, none⟩ (.bool neg)).setCell ⟨w.heap.size + 1, 1, none⟩ (.slice b1 l1 e1)).setCell ⟨w.heap.size + 1, 2, none⟩ (.slice b2 l2 e2)).cell? ⟨(w.heap.size + 1), 2, none⟩ = some (.slice b2 l2 e2) ∧ (∀ o, (((w2.setCell ⟨w.heap.size + 1, 0, none⟩ (.bool neg)).setCell ⟨w.heap.size + 1, 1, none⟩ (.slice b1 l1 e1)).setCell ⟨w.heap.size + 1, 2, none⟩ (.slice b2 l2 e2)).frozen? ⟨(w.heap.size + 1), o, none⟩ = false) ∧ (w.heap.size + 1) < (((w2.setCell ⟨w.heap.size + 1, 0, none⟩ (.bool neg)).setCell ⟨w.heap.size + 1, 1, none⟩ (.slice b1 l1 e1)).setCell ⟨w.heap.size + 1, 2, none⟩ (.slice b2 l2 e2)).heap.size) ∧ Kp (((w2.setCell ⟨w.heap.size + 1, 0, none⟩ (.bool neg)).setCell ⟨w.heap.size + 1, 1, none⟩ (.slice b1 l1 e1)).setCell ⟨w.heap.size + 1, 2, none⟩ (.slice b2 l2 e2)) (((w2.setCell ⟨w.heap.size + 1, 0, none⟩ (.bool neg)).setCell ⟨w.heap.size + 1, 1, none⟩ (.slice b1 l1 e1)).setCell ⟨w.heap.size + 1, 2, none⟩ (.slice b2 l2 e2)) :=
    ⟨sf_store (sf_store (sf_store hF0.1 ⟨Nat.le_succ _, Nat.ne_of_lt (Nat.lt_succ_self _)⟩) ⟨Nat.le_succ _, Nat.ne_of_lt (Nat.lt_succ_self _)⟩) ⟨Nat.le_succ _, Nat.ne_of_lt (Nat.lt_succ_self _)⟩, bx3_store hF0.2.1 _ _ _, Kp.refl _⟩
  clear hN1 hN2 hb hkp HMR
  rw [hn0] at hnn
  have hFz := hF0.2.1
  go_wp2_with fail
  clear hF0 hFz
  generalize (((w2.setCell ⟨w.heap.size + 1, 0, none⟩ (.bool neg)).setCell ⟨w.heap.size + 1, 1, none⟩ (.slice b1 l1 e1)).setCell ⟨w.heap.size + 1, 2, none⟩ (.slice b2 l2 e2)) = A at *
  have HLG : Hid (∀ W, ((W.cell? ⟨w.heap.size, 0, none⟩ = some (.int .u8 (E : Int)) ∧ W.cell? ⟨w.heap.size, 1, none⟩ = some (.int .u8 (M : Int)) ∧ w.heap.size < W.heap.size ∧ Below w.heap.size w W) ∧ (W.cell? ⟨(w.heap.size + 1), 0, none⟩ = some (.bool neg) ∧ W.cell? ⟨(w.heap.size + 1), 1, none⟩ = some (.slice b1 l1 e1) ∧ W.cell? ⟨(w.heap.size + 1), 2, none⟩ = some (.slice b2 l2 e2) ∧ (∀ o, W.frozen? ⟨(w.heap.size + 1), o, none⟩ = false) ∧ (w.heap.size + 1) < W.heap.size) ∧ Kp A W) → Calls Oajg.prog 69 #[.slice b1 l1 e1, .slice b2 l2 e2, .int .i64 (1 - (Bi : Int) - 1), .int .i64 (Bi : Int)] W fun e w' => e = .returned (.int .i64 R) ∧ Below W.heap.size W w') := fun W hW => by
    have := log2_ok B n d b1 b2 l1 e1 l2 e2 (1 - (Bi : Int) - 1) (Bi : Int) W (HN1.out.kp hW.2.2) (HN2.out.kp hW.2.2) (by omega) (Or.inl (by omega))
    rw [HLR.out] at this
    exact this
  have kW : IntKind.i64.wrap (1 - (Bi : Int) - 1) = 1 - (Bi : Int) - 1 := by rw [IntKind.wrap_i64]; omega
  go_region_held3 (fun W => (W.cell? ⟨w.heap.size, 0, none⟩ = some (.int .u8 (E : Int)) ∧ W.cell? ⟨w.heap.size, 1, none⟩ = some (.int .u8 (M : Int)) ∧ w.heap.size < W.heap.size ∧ Below w.heap.size w W) ∧ (W.cell? ⟨(w.heap.size + 1), 0, none⟩ = some (.bool neg) ∧ W.cell? ⟨(w.heap.size + 1), 1, none⟩ = some (.slice b1 l1 e1) ∧ W.cell? ⟨(w.heap.size + 1), 2, none⟩ = some (.slice b2 l2 e2) ∧ (∀ o, W.frozen? ⟨(w.heap.size + 1), o, none⟩ = false) ∧ (w.heap.size + 1) < W.heap.size) ∧ Kp A W)
    ((repeat' (first | with_reducible assumption | with_reducible refine rf_drew ?_)))
    ((first | (go_at_call 120; refine Calls.mono (HE.out _) ?_; rintro _ w3 ⟨rfl, hb⟩; have hF3 := rf_next (by with_reducible assumption) hb; clear hb) | (go_at_call 121; refine Calls.mono (HX.out _) ?_; rintro _ w4 ⟨rfl, hb⟩; have hF4 := rf_next (by with_reducible assumption) hb; clear hb) | (go_at_call 69; (with_reducible refine Calls.mono (HLG.out _ ?hh) ?_); (case hh => with_reducible assumption); rintro _ w5 ⟨rfl, hb⟩; have hF5 := rf_next (by with_reducible assumption) hb; clear hb)))
  clear hF hF3 hF4 HLG
  go_wp2_with fail
  refine Calls.mono (HE.out _) ?_
  rintro _ w6 ⟨rfl, hb⟩
  have hF6 := rf_next hF5 hb
  clear hb hF5
  go_wp2_with fail
  refine Calls.mono (HX.out _) ?_
  rintro _ w7 ⟨rfl, hb⟩
  have hF7 := rf_next hF6 hb
  clear hb hF6
  go_wp2_with fail
  refine Calls.mono (HV.out _) ?_
  rintro _ w8 ⟨rfl, hb⟩
  have hF8 := rf_next hF7 hb
  clear hb hF7
  go_wp2_with fail
  go_ret2
  exact ⟨rfl, hF8.1.2.2.2⟩

set_option maxRecDepth 100000 in
set_option maxHeartbeats 4000000 in
theorem roundFlags_norm (E M : Nat) (h : FOk E M) (mo : Nat) (neg : Bool) (B n d : Nat) (a1 a2 : Option Addr) (k1 c1 k2 c2 : Nat) (w : World) (h1 : NatIs B w (.slice a1 k1 c1) n) (h2 : NatIs B w (.slice a2 k2 c2) d) (hB : B ≤ 1000000) (hd : d ≠ 0) (hn : n ≠ 0) (R : Int) (hR : rfR E n d = R) (hge : 1 - (biasN E : Int) ≤ R) (hle : R ≤ biasN E) :
    Calls Oajg.prog 67 #[.agg #[.int .u8 (E : Int), .int .u8 (M : Int)], .int .u8 (mo : Int), .agg #[.bool neg, .slice a1 k1 c1, .slice a2 k2 c2]] w fun e w' => e = .returned (.tuple #[.int .u64 (rfN E M mo neg n d : Nat), .int .u8 (rfF E M mo neg n d : Nat)]) ∧ Below w.heap.size w w' := by
  have hF0 : (((w.alloc (.cells #[.int .u8 (E : Int), .int .u8 (M : Int)] 23)).alloc (.cells #[.bool neg, .slice a1 k1 c1, .slice a2 k2 c2] 48)).cell? ⟨w.heap.size, 0, none⟩ = some (.int .u8 (E : Int)) ∧ ((w.alloc (.cells #[.int .u8 (E : Int), .int .u8 (M : Int)] 23)).alloc (.cells #[.bool neg, .slice a1 k1 c1, .slice a2 k2 c2] 48)).cell? ⟨w.heap.size, 1, none⟩ = some (.int .u8 (M : Int)) ∧ w.heap.size < ((w.alloc (.cells #[.int .u8 (E : Int), .int .u8 (M : Int)] 23)).alloc (.cells #[.bool neg, .slice a1 k1 c1, .slice a2 k2 c2] 48)).heap.size ∧ Below w.heap.size w ((w.alloc (.cells #[.int .u8 (E : Int), .int .u8 (M : Int)] 23)).alloc (.cells #[.bool neg, .slice a1 k1 c1, .slice a2 k2 c2] 48))) ∧ (((w.alloc (.cells #[.int .u8 (E : Int), .int .u8 (M : Int)] 23)).alloc (.cells #[.bool neg, .slice a1 k1 c1, .slice a2 k2 c2] 48)).cell? ⟨(w.heap.size + 1), 0, none⟩ = some (.bool neg) ∧ ((w.alloc (.cells #[.int .u8 (E : Int), .int .u8 (M : Int)] 23)).alloc (.cells #[.bool neg, .slice a1 k1 c1, .slice a2 k2 c2] 48)).cell? ⟨(w.heap.size + 1), 1, none⟩ = some (.slice a1 k1 c1) ∧ ((w.alloc (.cells #[.int .u8 (E : Int), .int .u8 (M : Int)] 23)).alloc (.cells #[.bool neg, .slice a1 k1 c1, .slice a2 k2 c2] 48)).cell? ⟨(w.heap.size + 1), 2, none⟩ = some (.slice a2 k2 c2) ∧ (∀ o, ((w.alloc (.cells #[.int .u8 (E : Int), .int .u8 (M : Int)] 23)).alloc (.cells #[.bool neg, .slice a1 k1 c1, .slice a2 k2 c2] 48)).frozen? ⟨(w.heap.size + 1), o, none⟩ = false) ∧ (w.heap.size + 1) < ((w.alloc (.cells #[.int .u8 (E : Int), .int .u8 (M : Int)] 23)).alloc (.cells #[.bool neg, .slice a1 k1 c1, .slice a2 k2 c2] 48)).heap.size) ∧ Kp w ((w.alloc (.cells #[.int .u8 (E : Int), .int .u8 (M : Int)] 23)).alloc (.cells #[.bool neg, .slice a1 k1 c1, .slice a2 k2 c2] 48)) :=
    ⟨sf_alloc (sf_box w E M) _, bx3_made (w.alloc (.cells #[.int .u8 (E : Int), .int .u8 (M : Int)] 23)) (m := w.heap.size + 1) _ _ _ 48 (by simp), ((Kp.refl w).alloc _).alloc _⟩
  have HO : Hid (∀ w, Calls Oajg.prog 17 #[.agg #[.int .u8 (E : Int), .int .u8 (M : Int)]] w fun e w' => e = .returned (.bool true) ∧ Below w.heap.size w w') := ok_yes h
  have HMR : Hid (∀ W, Kp w W → Calls Oajg.prog 118 #[.bool neg, .slice a1 k1 c1, .slice a2 k2 c2] W fun e w' => ∃ b1 l1 e1 b2 l2 e2, e = .returned (.agg #[.bool neg, .slice b1 l1 e1, .slice b2 l2 e2]) ∧ NatIs B w' (.slice b1 l1 e1) n ∧ NatIs B w' (.slice b2 l2 e2) d ∧ Below W.heap.size W w') := fun W hW => makeRat_ok neg B n d a1 a2 k1 c1 k2 c2 W (h1.kp hW) (h2.kp hW) (by omega) hd
  have HE : Hid (∀ w, Calls Oajg.prog 120 #[.agg #[.int .u8 (E : Int), .int .u8 (M : Int)]] w fun e w' => e = .returned (.int .i64 (1 - (biasN E : Int))) ∧ Below w.heap.size w w') := emin_ok E M h
  have HX : Hid (∀ w, Calls Oajg.prog 121 #[.agg #[.int .u8 (E : Int), .int .u8 (M : Int)]] w fun e w' => e = .returned (.int .i64 (biasN E : Nat)) ∧ Below w.heap.size w w') := emax_ok E M h
  have hnil := eql_nil
  have hbi := biasN_le h.e11
  have hM52 := h.m52
  have hRb := lg2_range (n := n) (d := d) (lo := 1 - (biasN E : Int) - 1) (hi := (biasN E : Int)) (by have := biasN_pos h.e2; omega)
  have HRR : Hid (rfR E n d = R) := hR
  have hR' : lg2 n d (1 - (biasN E : Int) - 1) (biasN E : Int) = R := hR
  rw [hR'] at hRb
  obtain ⟨hRb1, hRb2⟩ := hRb
  have hbi1 := biasN_pos h.e2
  have hE' : rfE E n d = R := by unfold rfE; rw [hR]; omega
  have hle2 : rfR E n d ≤ biasN E := by rw [hR]; omega
  obtain ⟨D, hD⟩ : ∃ D : Nat, D = (R - (1 - (biasN E : Int))).toNat := ⟨_, rfl⟩
  have kD : 1 - (biasN E : Int) + (D : Int) = R := by omega
  have hDE : D ≤ 2 ^ E := by
    have e1 : 2 ^ E = 2 * 2 ^ (E - 1) := by
      have := h.e2
      rw [← Nat.pow_succ']; congr 1; omega
    have e2 : biasN E = 2 ^ (E - 1) - 1 := rfl
    have := pp (E - 1)
    omega
  have hTL : rfTop mo neg n d ((M : Int) - (R)) ≤ 2 ^ (M + 1) := rfTop_le hn hd hle2 (by rw [hR]; omega)
  have hM53 : 2 ^ (M + 1) ≤ 2 ^ 53 := Nat.pow_le_pow_right (by decide) (by omega)
  obtain ⟨N1, HN1'⟩ : ∃ N1, Hid (n * 2 ^ ((M : Int) - (R)).toNat = N1) := ⟨_, rfl⟩
  obtain ⟨D1, HD1'⟩ : ∃ D1, Hid (d * 2 ^ (-((M : Int) - (R))).toNat = D1) := ⟨_, rfl⟩
  have hD10 : D1 ≠ 0 := by rw [← HD1'.out]; exact Nat.mul_ne_zero hd (Nat.ne_of_gt (pp _))
  obtain ⟨TOP, HTOPE⟩ : ∃ TOP, Hid (rzN mo neg N1 D1 = TOP) := ⟨_, rfl⟩
  obtain ⟨HF, HHF⟩ : ∃ HF, Hid (hfX N1 D1 = HF) := ⟨_, rfl⟩
  obtain ⟨SM, HSM⟩ : ∃ SM, Hid (smX N1 D1 = SM) := ⟨_, rfl⟩
  have eTop : rfTop mo neg n d ((M : Int) - (R)) = TOP := by unfold rfTop; rw [HN1'.out, HD1'.out, HTOPE.out]
  have eSm : rfSm n d ((M : Int) - (R)) = SM := by unfold rfSm; rw [HN1'.out, HD1'.out, HSM.out]
  rw [eTop] at hTL
  have hT64 : TOP < 18446744073709551616 := by omega
  have eTiny : rfTiny E M mo neg n d = false := by unfold rfTiny; rw [hR, if_neg (by omega)]; simpa using hge
  have HRES : Hid (rfN E M mo neg n d = pkN E M mo neg D TOP SM false ∧ rfF E M mo neg n d = pkF E M D TOP SM false) := ⟨by unfold rfN; rw [if_neg hn, hE', if_neg (by omega), eTop, eSm, eTiny, ← hD], by unfold rfF; rw [if_neg hn, hE', if_neg (by omega), eTop, eSm, eTiny, ← hD]⟩
  have HPK : Hid (∀ w, Calls Oajg.prog 124 #[.agg #[.int .u8 (E : Int), .int .u8 (M : Int)], .int .u8 (mo : Int), .bool neg, .int .i64 (R), .int .u64 (TOP : Int), .agg #[.int .i8 HF, .bool SM], .bool false] w fun e w' => e = .returned (.tuple #[.int .u64 (pkN E M mo neg D TOP SM false : Nat), .int .u8 (pkF E M D TOP SM false : Nat)]) ∧ Below w.heap.size w w') := fun w => by
    have := pack_ok E M h mo neg D TOP HF SM false hDE hTL w
    rw [kD] at this
    exact this
  have hn0 : (n == 0) = false := by simp [hn]
  have HLR : Hid (lg2 n d (1 - (biasN E : Int) - 1) (biasN E : Int) = R) := hR'
  rw [HRES.out.1, HRES.out.2]
  generalize pkN E M mo neg D TOP SM false = PN at *
  generalize pkF E M D TOP SM false = PF at *
  generalize biasN E = Bi at *
  clear h h1 h2 hn HRES hE' HRR hR hR' hle2 hDE hTL hM53 eTop eSm eTiny hD kD
  have jE : (R == 1 - (Bi : Int) - 1) = false := by simp; omega
  have jL : decide (R < 1 - (Bi : Int)) = false := by rw [decide_eq_false_iff_not]; omega
  go_enter Oajg.func67, Oajg.ntmps67
  go_wp2_with fail
  refine Calls.mono (HO.out _) ?_
  rintro _ w1 ⟨rfl, hb⟩
  replace hF0 := rf_next hF0 hb
  clear hb HO
  go_wp2_with fail
  refine Calls.mono (HMR.out _ hF0.2.2) ?_
  rintro _ w2 ⟨b1, l1, e1, b2, l2, e2, rfl, hN1, hN2, hb⟩
  replace hF0 := rf_next hF0 hb
  have hkp := store3 hF0.2.1 (not32_bool _) (not32_slice _ _ _) (not32_slice _ _ _) (.bool neg) (.slice b1 l1 e1) (.slice b2 l2 e2)
  have hnn := hN1.none_eq
  have HN1 : Hid (NatIs B (((w2.setCell ⟨w.heap.size + 1, 0, none⟩ (.bool neg)).setCell ⟨w.heap.size + 1, 1, none⟩ (.slice b1 l1 e1)).setCell ⟨w.heap.size + 1, 2, none⟩ (.slice b2 l2 e2)) (.slice b1 l1 e1) n) := hN1.kp hkp
  have HN2 : Hid (NatIs B (((w2.setCell ⟨w.heap.size + 1, 0, none⟩ (.bool neg)).setCell ⟨w.heap.size + 1, 1, none⟩ (.slice b1 l1 e1)).setCell ⟨w.heap.size + 1, 2, none⟩ (.slice b2 l2 e2)) (.slice b2 l2 e2) d) := hN2.kp hkp
  have hF : ((((w2.setCell ⟨w.heap.size + 1, 0, none⟩ (.bool neg)).setCell ⟨w.heap.size + 1, 1, none⟩ (.slice b1 l1 e1)).setCell ⟨w.heap.size + 1, 2, none⟩ (.slice b2 l2 e2)).cell? ⟨w.heap.size, 0, none⟩ = some (.int .u8 (E : Int)) ∧ (((w2.setCell ⟨w.heap.size + 1, 0, none⟩ (.bool neg)).setCell ⟨w.heap.size + 1, 1, none⟩ (.slice b1 l1 e1)).setCell ⟨w.heap.size + 1, 2, none⟩ (.slice b2 l2 e2)).cell? ⟨w.heap.size, 1, none⟩ = some (.int .u8 (M : Int)) ∧ w.heap.size < (((w2.setCell ⟨w.heap.size + 1, 0, none⟩ (.bool neg)).setCell ⟨w.heap.size + 1, 1, none⟩ (.slice b1 l1 e1)).setCell ⟨w.heap.size + 1, 2, none⟩ (.slice b2 l2 e2)).heap.size ∧ Below w.heap.size w (((w2.setCell ⟨w.heap.size + 1, 0, none⟩ (.bool neg)).setCell ⟨w.heap.size + 1, 1, none⟩ (.slice b1 l1 e1)).setCell ⟨w.heap.size + 1, 2, none⟩ (.slice b2 l2 e2))) ∧ ((((w2.setCell ⟨w.heap.size + 1, 0, none⟩ (.bool neg)).setCell ⟨w.heap.size + 1, 1, none⟩ (.slice b1 l1 e1)).setCell ⟨w.heap.size + 1, 2, none⟩ (.slice b2 l2 e2)).cell? ⟨(w.heap.size + 1), 0, none⟩ = some (.bool neg) ∧ (((w2.setCell ⟨w.heap.size + 1, 0, none⟩ (.bool neg)).setCell ⟨w.heap.size + 1, 1, none⟩ (.slice b1 l1 e1)).setCell ⟨w.heap.size + 1, 2, none⟩ (.slice b2 l2 e2)).cell? ⟨(w.heap.size + 1), 1, none⟩ = some (.slice b1 l1 e1) ∧ (((w2.setCell ⟨w.heap.size + 1, 0, none⟩ (.bool neg)).setCell ⟨w.heap.size + 1, 1, none⟩ (.slice b1 l1 e1)).setCell ⟨w.heap.size + 1, 2, none⟩ (.slice b2 l2 e2)).cell? ⟨(w.heap.size + 1), 2, none⟩ = some (.slice b2 l2 e2) ∧ (∀ o, (((w2.setCell ⟨w.heap.size + 1, 0, none⟩ (.bool neg)).setCell ⟨w.heap.size + 1, 1, none⟩ (.slice b1 l1 e1)).setCell ⟨w.heap.size + 1, 2, none⟩ (.slice b2 l2 e2)).frozen? ⟨(w.heap.size + 1), o, none⟩ = false) ∧ (w.heap.size + 1) < (((w2.setCell ⟨w.heap.size + 1, 0, none⟩ (.bool neg)).setCell ⟨w.heap.size + 1, 1, none⟩ (.slice b1 l1 e1)).setCell ⟨w.heap.size + 1, 2, none⟩ (.slice b2 l2 e2)).heap.size) ∧ Kp (((w2.setCell ⟨w.heap.size + 1, 0, none⟩ (.bool neg)).setCell ⟨w.heap.size + 1, 1, none⟩ (.slice b1 l1 e1)).setCell ⟨w.heap.size + 1, 2, none⟩ (.slice b2 l2 e2)) (((w2.setCell ⟨w.heap.size + 1, 0, none⟩ (.bool neg)).setCell ⟨w.heap.size + 1, 1, none⟩ (.slice b1 l1 e1)).setCell ⟨w.heap.size + 1, 2, none⟩ (.slice b2 l2 e2)) :=
    ⟨sf_store (sf_store (sf_store hF0.1 ⟨Nat.le_succ _, Nat.ne_of_lt (Nat.lt_succ_self _)⟩) ⟨Nat.le_succ _, Nat.ne_of_lt (Nat.lt_succ_self _)⟩) ⟨Nat.le_succ _, Nat.ne_of_lt (Nat.lt_succ_self _)⟩, bx3_store hF0.2.1 _ _ _, Kp.refl _⟩
  clear hN1 hN2 hb hkp HMR
  rw [hn0] at hnn
  have hFz := hF0.2.1
  go_wp2_with fail
  clear hF0 hFz
  generalize (((w2.setCell ⟨w.heap.size + 1, 0, none⟩ (.bool neg)).setCell ⟨w.heap.size + 1, 1, none⟩ (.slice b1 l1 e1)).setCell ⟨w.heap.size + 1, 2, none⟩ (.slice b2 l2 e2)) = A at *
  have HLG : Hid (∀ W, ((W.cell? ⟨w.heap.size, 0, none⟩ = some (.int .u8 (E : Int)) ∧ W.cell? ⟨w.heap.size, 1, none⟩ = some (.int .u8 (M : Int)) ∧ w.heap.size < W.heap.size ∧ Below w.heap.size w W) ∧ (W.cell? ⟨(w.heap.size + 1), 0, none⟩ = some (.bool neg) ∧ W.cell? ⟨(w.heap.size + 1), 1, none⟩ = some (.slice b1 l1 e1) ∧ W.cell? ⟨(w.heap.size + 1), 2, none⟩ = some (.slice b2 l2 e2) ∧ (∀ o, W.frozen? ⟨(w.heap.size + 1), o, none⟩ = false) ∧ (w.heap.size + 1) < W.heap.size) ∧ Kp A W) → Calls Oajg.prog 69 #[.slice b1 l1 e1, .slice b2 l2 e2, .int .i64 (1 - (Bi : Int) - 1), .int .i64 (Bi : Int)] W fun e w' => e = .returned (.int .i64 R) ∧ Below W.heap.size W w') := fun W hW => by
    have := log2_ok B n d b1 b2 l1 e1 l2 e2 (1 - (Bi : Int) - 1) (Bi : Int) W (HN1.out.kp hW.2.2) (HN2.out.kp hW.2.2) (by omega) (Or.inl (by omega))
    rw [HLR.out] at this
    exact this
  have kW : IntKind.i64.wrap (1 - (Bi : Int) - 1) = 1 - (Bi : Int) - 1 := by rw [IntKind.wrap_i64]; omega
  go_region_held3 (fun W => (W.cell? ⟨w.heap.size, 0, none⟩ = some (.int .u8 (E : Int)) ∧ W.cell? ⟨w.heap.size, 1, none⟩ = some (.int .u8 (M : Int)) ∧ w.heap.size < W.heap.size ∧ Below w.heap.size w W) ∧ (W.cell? ⟨(w.heap.size + 1), 0, none⟩ = some (.bool neg) ∧ W.cell? ⟨(w.heap.size + 1), 1, none⟩ = some (.slice b1 l1 e1) ∧ W.cell? ⟨(w.heap.size + 1), 2, none⟩ = some (.slice b2 l2 e2) ∧ (∀ o, W.frozen? ⟨(w.heap.size + 1), o, none⟩ = false) ∧ (w.heap.size + 1) < W.heap.size) ∧ Kp A W)
    ((repeat' (first | with_reducible assumption | with_reducible refine rf_drew ?_)))
    ((first | (go_at_call 120; refine Calls.mono (HE.out _) ?_; rintro _ w3 ⟨rfl, hb⟩; have hF3 := rf_next (by with_reducible assumption) hb; clear hb) | (go_at_call 121; refine Calls.mono (HX.out _) ?_; rintro _ w4 ⟨rfl, hb⟩; have hF4 := rf_next (by with_reducible assumption) hb; clear hb) | (go_at_call 69; (with_reducible refine Calls.mono (HLG.out _ ?hh) ?_); (case hh => with_reducible assumption); rintro _ w5 ⟨rfl, hb⟩; have hF5 := rf_next (by with_reducible assumption) hb; clear hb)))
  clear hF hF3 hF4 HLG
  go_wp2_with fail
  refine Calls.mono (HE.out _) ?_
  rintro _ w6 ⟨rfl, hb⟩
  have hF6 := rf_next hF5 hb
  clear hb hF5
  go_wp2_with fail
  refine Calls.mono (HX.out _) ?_
  rintro _ w7 ⟨rfl, hb⟩
  have hF7 := rf_next hF6 hb
  clear hb hF6
  have HSH : Hid (∀ W, ((W.cell? ⟨w.heap.size, 0, none⟩ = some (.int .u8 (E : Int)) ∧ W.cell? ⟨w.heap.size, 1, none⟩ = some (.int .u8 (M : Int)) ∧ w.heap.size < W.heap.size ∧ Below w.heap.size w W) ∧ (W.cell? ⟨(w.heap.size + 1), 0, none⟩ = some (.bool neg) ∧ W.cell? ⟨(w.heap.size + 1), 1, none⟩ = some (.slice b1 l1 e1) ∧ W.cell? ⟨(w.heap.size + 1), 2, none⟩ = some (.slice b2 l2 e2) ∧ (∀ o, W.frozen? ⟨(w.heap.size + 1), o, none⟩ = false) ∧ (w.heap.size + 1) < W.heap.size) ∧ Kp A W) → Calls Oajg.prog 66 #[.slice b1 l1 e1, .slice b2 l2 e2, .int .i64 ((M : Int) - (R))] W fun e w' => ∃ b1 l1 e1 b2 l2 e2, e = .returned (.tuple #[.slice b1 l1 e1, .slice b2 l2 e2]) ∧ NatIs (B + 2048) w' (.slice b1 l1 e1) N1 ∧ NatIs (B + 2048) w' (.slice b2 l2 e2) D1 ∧ Below W.heap.size W w') := fun W hW => by
    have := shift_ok B n d b1 b2 l1 e1 l2 e2 ((M : Int) - (R)) W (HN1.out.kp hW.2.2) (HN2.out.kp hW.2.2) (by omega) (by omega) (by omega)
    rw [HN1'.out, HD1'.out] at this
    exact this
  go_wp2_with fail
  refine Calls.mono (HSH.out _ hF7) ?_
  rintro _ w8 ⟨b3, l3, e3, b4, l4, e4, rfl, hM1, hM2, hb⟩
  have hF8 := rf_next hF7 hb
  have HRA : Hid (Calls Oajg.prog 123 #[.int .u8 (mo : Int), .bool neg, .slice b3 l3 e3, .slice b4 l4 e4] w8 fun e w' => ∃ b1 l1 e1, e = .returned (.tuple #[.slice b1 l1 e1, .agg #[.int .i8 HF, .bool SM]]) ∧ NatIs (B + 2048 + 3) w' (.slice b1 l1 e1) TOP ∧ Below w8.heap.size w8 w') := by
    have := raised_ok mo neg (B + 2048) N1 D1 b3 b4 l3 e3 l4 e4 w8 hM1 hM2 (by omega) hD10
    rw [HHF.out, HSM.out, HTOPE.out] at this
    exact this
  clear hb hF7 hM1 hM2 HSH
  go_wp2_with fail
  refine Calls.mono HRA.out ?_
  rintro _ w9 ⟨b5, l5, e5, rfl, hM5, hb⟩
  have hF9 := rf_next hF8 hb
  have hG := rg_made 152 hF9 (.int .i8 HF) (.bool SM)
  have HTP : Hid (NatIs (B + 2048 + 3) (w9.alloc (.cells #[.int .i8 HF, .bool SM] 152)) (.slice b5 l5 e5) TOP) := hM5.kept ((Below.refl _ _).alloc (Nat.le_refl _) _)
  clear hb hF8 hM5 HRA
  go_wp2_with fail
  refine Calls.mono (HE.out _) ?_
  rintro _ w10 ⟨rfl, hb⟩
  have hG10 := rg_next hG hb
  clear hb
  go_wp2_with fail
  refine Calls.mono (HE.out _) ?_
  rintro _ w11 ⟨rfl, hb⟩
  have hG11 := rg_next hG10 hb
  clear hb hG10
  have HTU : Hid (∀ W, ((W.cell? ⟨w.heap.size, 0, none⟩ = some (.int .u8 (E : Int)) ∧ W.cell? ⟨w.heap.size, 1, none⟩ = some (.int .u8 (M : Int)) ∧ w.heap.size < W.heap.size ∧ Below w.heap.size w W) ∧ (W.cell? ⟨(w.heap.size + 1), 0, none⟩ = some (.bool neg) ∧ W.cell? ⟨(w.heap.size + 1), 1, none⟩ = some (.slice b1 l1 e1) ∧ W.cell? ⟨(w.heap.size + 1), 2, none⟩ = some (.slice b2 l2 e2) ∧ (∀ o, W.frozen? ⟨(w.heap.size + 1), o, none⟩ = false) ∧ (w.heap.size + 1) < W.heap.size) ∧ Kp (w9.alloc (.cells #[.int .i8 HF, .bool SM] 152)) W ∧ (W.cell? ⟨w9.heap.size, 0, none⟩ = some (.int .i8 HF) ∧ W.cell? ⟨w9.heap.size, 1, none⟩ = some (.bool SM) ∧ (∀ o, W.frozen? ⟨w9.heap.size, o, none⟩ = false) ∧ w9.heap.size < W.heap.size)) → Calls Oajg.prog 125 #[.slice b5 l5 e5] W fun e w' => e = .returned (.int .u64 (TOP : Int)) ∧ Below W.heap.size W w') := fun W hW => toU64_ok (B + 2048 + 3) _ TOP W (HTP.out.kp hW.2.2.1) (by omega) hT64
  clear hF9 hG
  go_wp2_with fail
  go_region_held3 (fun W => (W.cell? ⟨w.heap.size, 0, none⟩ = some (.int .u8 (E : Int)) ∧ W.cell? ⟨w.heap.size, 1, none⟩ = some (.int .u8 (M : Int)) ∧ w.heap.size < W.heap.size ∧ Below w.heap.size w W) ∧ (W.cell? ⟨(w.heap.size + 1), 0, none⟩ = some (.bool neg) ∧ W.cell? ⟨(w.heap.size + 1), 1, none⟩ = some (.slice b1 l1 e1) ∧ W.cell? ⟨(w.heap.size + 1), 2, none⟩ = some (.slice b2 l2 e2) ∧ (∀ o, W.frozen? ⟨(w.heap.size + 1), o, none⟩ = false) ∧ (w.heap.size + 1) < W.heap.size) ∧ Kp (w9.alloc (.cells #[.int .i8 HF, .bool SM] 152)) W ∧ (W.cell? ⟨w9.heap.size, 0, none⟩ = some (.int .i8 HF) ∧ W.cell? ⟨w9.heap.size, 1, none⟩ = some (.bool SM) ∧ (∀ o, W.frozen? ⟨w9.heap.size, o, none⟩ = false) ∧ w9.heap.size < W.heap.size))
    ((repeat' (first | with_reducible assumption | with_reducible refine rg_drew ?_)))
    ((first | (go_at_call 125; (with_reducible refine Calls.mono (HTU.out _ ?hh) ?_); (case hh => with_reducible assumption); rintro _ w12 ⟨rfl, hb⟩; have hG12 := rg_next (by with_reducible assumption) hb; clear hb) | (go_at_call 124; refine Calls.mono (HPK.out _) ?_; rintro _ w13 ⟨rfl, hb⟩; have hG13 := rg_next (by with_reducible assumption) hb; clear hb)))
  go_wp2_with fail
  go_ret2
  exact ⟨rfl, hG13.1.2.2.2⟩

set_option maxRecDepth 100000 in
set_option maxHeartbeats 4000000 in
theorem roundFlags_tiny (E M : Nat) (h : FOk E M) (mo : Nat) (neg : Bool) (B n d : Nat) (a1 a2 : Option Addr) (k1 c1 k2 c2 : Nat) (w : World) (h1 : NatIs B w (.slice a1 k1 c1) n) (h2 : NatIs B w (.slice a2 k2 c2) d) (hB : B ≤ 1000000) (hd : d ≠ 0) (hn : n ≠ 0) (R : Int) (hR : rfR E n d = R) (hlt : R < 1 - (biasN E : Int)) (hne : R ≠ 1 - (biasN E : Int) - 1) :
    Calls Oajg.prog 67 #[.agg #[.int .u8 (E : Int), .int .u8 (M : Int)], .int .u8 (mo : Int), .agg #[.bool neg, .slice a1 k1 c1, .slice a2 k2 c2]] w fun e w' => e = .returned (.tuple #[.int .u64 (rfN E M mo neg n d : Nat), .int .u8 (rfF E M mo neg n d : Nat)]) ∧ Below w.heap.size w w' := by
  have hF0 : (((w.alloc (.cells #[.int .u8 (E : Int), .int .u8 (M : Int)] 23)).alloc (.cells #[.bool neg, .slice a1 k1 c1, .slice a2 k2 c2] 48)).cell? ⟨w.heap.size, 0, none⟩ = some (.int .u8 (E : Int)) ∧ ((w.alloc (.cells #[.int .u8 (E : Int), .int .u8 (M : Int)] 23)).alloc (.cells #[.bool neg, .slice a1 k1 c1, .slice a2 k2 c2] 48)).cell? ⟨w.heap.size, 1, none⟩ = some (.int .u8 (M : Int)) ∧ w.heap.size < ((w.alloc (.cells #[.int .u8 (E : Int), .int .u8 (M : Int)] 23)).alloc (.cells #[.bool neg, .slice a1 k1 c1, .slice a2 k2 c2] 48)).heap.size ∧ Below w.heap.size w ((w.alloc (.cells #[.int .u8 (E : Int), .int .u8 (M : Int)] 23)).alloc (.cells #[.bool neg, .slice a1 k1 c1, .slice a2 k2 c2] 48))) ∧ (((w.alloc (.cells #[.int .u8 (E : Int), .int .u8 (M : Int)] 23)).alloc (.cells #[.bool neg, .slice a1 k1 c1, .slice a2 k2 c2] 48)).cell? ⟨(w.heap.size + 1), 0, none⟩ = some (.bool neg) ∧ ((w.alloc (.cells #[.int .u8 (E : Int), .int .u8 (M : Int)] 23)).alloc (.cells #[.bool neg, .slice a1 k1 c1, .slice a2 k2 c2] 48)).cell? ⟨(w.heap.size + 1), 1, none⟩ = some (.slice a1 k1 c1) ∧ ((w.alloc (.cells #[.int .u8 (E : Int), .int .u8 (M : Int)] 23)).alloc (.cells #[.bool neg, .slice a1 k1 c1, .slice a2 k2 c2] 48)).cell? ⟨(w.heap.size + 1), 2, none⟩ = some (.slice a2 k2 c2) ∧ (∀ o, ((w.alloc (.cells #[.int .u8 (E : Int), .int .u8 (M : Int)] 23)).alloc (.cells #[.bool neg, .slice a1 k1 c1, .slice a2 k2 c2] 48)).frozen? ⟨(w.heap.size + 1), o, none⟩ = false) ∧ (w.heap.size + 1) < ((w.alloc (.cells #[.int .u8 (E : Int), .int .u8 (M : Int)] 23)).alloc (.cells #[.bool neg, .slice a1 k1 c1, .slice a2 k2 c2] 48)).heap.size) ∧ Kp w ((w.alloc (.cells #[.int .u8 (E : Int), .int .u8 (M : Int)] 23)).alloc (.cells #[.bool neg, .slice a1 k1 c1, .slice a2 k2 c2] 48)) :=
    ⟨sf_alloc (sf_box w E M) _, bx3_made (w.alloc (.cells #[.int .u8 (E : Int), .int .u8 (M : Int)] 23)) (m := w.heap.size + 1) _ _ _ 48 (by simp), ((Kp.refl w).alloc _).alloc _⟩
  have HO : Hid (∀ w, Calls Oajg.prog 17 #[.agg #[.int .u8 (E : Int), .int .u8 (M : Int)]] w fun e w' => e = .returned (.bool true) ∧ Below w.heap.size w w') := ok_yes h
  have HMR : Hid (∀ W, Kp w W → Calls Oajg.prog 118 #[.bool neg, .slice a1 k1 c1, .slice a2 k2 c2] W fun e w' => ∃ b1 l1 e1 b2 l2 e2, e = .returned (.agg #[.bool neg, .slice b1 l1 e1, .slice b2 l2 e2]) ∧ NatIs B w' (.slice b1 l1 e1) n ∧ NatIs B w' (.slice b2 l2 e2) d ∧ Below W.heap.size W w') := fun W hW => makeRat_ok neg B n d a1 a2 k1 c1 k2 c2 W (h1.kp hW) (h2.kp hW) (by omega) hd
  have HE : Hid (∀ w, Calls Oajg.prog 120 #[.agg #[.int .u8 (E : Int), .int .u8 (M : Int)]] w fun e w' => e = .returned (.int .i64 (1 - (biasN E : Int))) ∧ Below w.heap.size w w') := emin_ok E M h
  have HX : Hid (∀ w, Calls Oajg.prog 121 #[.agg #[.int .u8 (E : Int), .int .u8 (M : Int)]] w fun e w' => e = .returned (.int .i64 (biasN E : Nat)) ∧ Below w.heap.size w w') := emax_ok E M h
  have hnil := eql_nil
  have hbi := biasN_le h.e11
  have hM52 := h.m52
  have hRb := lg2_range (n := n) (d := d) (lo := 1 - (biasN E : Int) - 1) (hi := (biasN E : Int)) (by have := biasN_pos h.e2; omega)
  have HRR : Hid (rfR E n d = R) := hR
  have hR' : lg2 n d (1 - (biasN E : Int) - 1) (biasN E : Int) = R := hR
  rw [hR'] at hRb
  obtain ⟨hRb1, hRb2⟩ := hRb
  have hbi1 := biasN_pos h.e2
  have hE' : rfE E n d = 1 - (biasN E : Int) := by unfold rfE; rw [hR]; omega
  have hle2 : rfR E n d ≤ biasN E := by rw [hR]; omega
  obtain ⟨D, hD⟩ : ∃ D : Nat, D = (1 - (biasN E : Int) - (1 - (biasN E : Int))).toNat := ⟨_, rfl⟩
  have kD : 1 - (biasN E : Int) + (D : Int) = 1 - (biasN E : Int) := by omega
  have hDE : D ≤ 2 ^ E := by
    have e1 : 2 ^ E = 2 * 2 ^ (E - 1) := by
      have := h.e2
      rw [← Nat.pow_succ']; congr 1; omega
    have e2 : biasN E = 2 ^ (E - 1) - 1 := rfl
    have := pp (E - 1)
    omega
  have hTL : rfTop mo neg n d ((M : Int) - (1 - (biasN E : Int))) ≤ 2 ^ (M + 1) := rfTop_le hn hd hle2 (by rw [hR]; omega)
  have hM53 : 2 ^ (M + 1) ≤ 2 ^ 53 := Nat.pow_le_pow_right (by decide) (by omega)
  obtain ⟨N1, HN1'⟩ : ∃ N1, Hid (n * 2 ^ ((M : Int) - (1 - (biasN E : Int))).toNat = N1) := ⟨_, rfl⟩
  obtain ⟨D1, HD1'⟩ : ∃ D1, Hid (d * 2 ^ (-((M : Int) - (1 - (biasN E : Int)))).toNat = D1) := ⟨_, rfl⟩
  have hD10 : D1 ≠ 0 := by rw [← HD1'.out]; exact Nat.mul_ne_zero hd (Nat.ne_of_gt (pp _))
  obtain ⟨TOP, HTOPE⟩ : ∃ TOP, Hid (rzN mo neg N1 D1 = TOP) := ⟨_, rfl⟩
  obtain ⟨HF, HHF⟩ : ∃ HF, Hid (hfX N1 D1 = HF) := ⟨_, rfl⟩
  obtain ⟨SM, HSM⟩ : ∃ SM, Hid (smX N1 D1 = SM) := ⟨_, rfl⟩
  have eTop : rfTop mo neg n d ((M : Int) - (1 - (biasN E : Int))) = TOP := by unfold rfTop; rw [HN1'.out, HD1'.out, HTOPE.out]
  have eSm : rfSm n d ((M : Int) - (1 - (biasN E : Int))) = SM := by unfold rfSm; rw [HN1'.out, HD1'.out, HSM.out]
  rw [eTop] at hTL
  have hT64 : TOP < 18446744073709551616 := by omega
  have eTiny : rfTiny E M mo neg n d = true := by unfold rfTiny; rw [hR, if_neg hne]; simpa using hlt
  have HRES : Hid (rfN E M mo neg n d = pkN E M mo neg D TOP SM true ∧ rfF E M mo neg n d = pkF E M D TOP SM true) := ⟨by unfold rfN; rw [if_neg hn, hE', if_neg (by omega), eTop, eSm, eTiny, ← hD], by unfold rfF; rw [if_neg hn, hE', if_neg (by omega), eTop, eSm, eTiny, ← hD]⟩
  have HPK : Hid (∀ w, Calls Oajg.prog 124 #[.agg #[.int .u8 (E : Int), .int .u8 (M : Int)], .int .u8 (mo : Int), .bool neg, .int .i64 (1 - (biasN E : Int)), .int .u64 (TOP : Int), .agg #[.int .i8 HF, .bool SM], .bool true] w fun e w' => e = .returned (.tuple #[.int .u64 (pkN E M mo neg D TOP SM true : Nat), .int .u8 (pkF E M D TOP SM true : Nat)]) ∧ Below w.heap.size w w') := fun w => by
    have := pack_ok E M h mo neg D TOP HF SM true hDE hTL w
    rw [kD] at this
    exact this
  have hn0 : (n == 0) = false := by simp [hn]
  have HLR : Hid (lg2 n d (1 - (biasN E : Int) - 1) (biasN E : Int) = R) := hR'
  rw [HRES.out.1, HRES.out.2]
  generalize pkN E M mo neg D TOP SM true = PN at *
  generalize pkF E M D TOP SM true = PF at *
  generalize biasN E = Bi at *
  clear h h1 h2 hn HRES hE' HRR hR hR' hle2 hDE hTL hM53 eTop eSm eTiny hD kD
  have jE : (R == 1 - (Bi : Int) - 1) = false := by simpa using hne
  clear hne
  go_enter Oajg.func67, Oajg.ntmps67
  go_wp2_with fail
  refine Calls.mono (HO.out _) ?_
  rintro _ w1 ⟨rfl, hb⟩
  replace hF0 := rf_next hF0 hb
  clear hb HO
  go_wp2_with fail
  refine Calls.mono (HMR.out _ hF0.2.2) ?_
  rintro _ w2 ⟨b1, l1, e1, b2, l2, e2, rfl, hN1, hN2, hb⟩
  replace hF0 := rf_next hF0 hb
  have hkp := store3 hF0.2.1 (not32_bool _) (not32_slice _ _ _) (not32_slice _ _ _) (.bool neg) (.slice b1 l1 e1) (.slice b2 l2 e2)
  have hnn := hN1.none_eq
  have HN1 : Hid (NatIs B (((w2.setCell ⟨w.heap.size + 1, 0, none⟩ (.bool neg)).setCell ⟨w.heap.size + 1, 1, none⟩ (.slice b1 l1 e1)).setCell ⟨w.heap.size + 1, 2, none⟩ (.slice b2 l2 e2)) (.slice b1 l1 e1) n) := hN1.kp hkp
  have HN2 : Hid (NatIs B (((w2.setCell ⟨w.heap.size + 1, 0, none⟩ (.bool neg)).setCell ⟨w.heap.size + 1, 1, none⟩ (.slice b1 l1 e1)).setCell ⟨w.heap.size + 1, 2, none⟩ (.slice b2 l2 e2)) (.slice b2 l2 e2) d) := hN2.kp hkp
  have hF : ((((w2.setCell ⟨w.heap.size + 1, 0, none⟩ (.bool neg)).setCell ⟨w.heap.size + 1, 1, none⟩ (.slice b1 l1 e1)).setCell ⟨w.heap.size + 1, 2, none⟩ (.slice b2 l2 e2)).cell? ⟨w.heap.size, 0, none⟩ = some (.int .u8 (E : Int)) ∧ (((w2.setCell ⟨w.heap.size + 1, 0, none⟩ (.bool neg)).setCell ⟨w.heap.size + 1, 1, none⟩ (.slice b1 l1 e1)).setCell ⟨w.heap.size + 1, 2, none⟩ (.slice b2 l2 e2)).cell? ⟨w.heap.size, 1, none⟩ = some (.int .u8 (M : Int)) ∧ w.heap.size < (((w2.setCell ⟨w.heap.size + 1, 0, none⟩ (.bool neg)).setCell ⟨w.heap.size + 1, 1, none⟩ (.slice b1 l1 e1)).setCell ⟨w.heap.size + 1, 2, none⟩ (.slice b2 l2 e2)).heap.size ∧ Below w.heap.size w (((w2.setCell ⟨w.heap.size + 1, 0, none⟩ (.bool neg)).setCell ⟨w.heap.size + 1, 1, none⟩ (.slice b1 l1 e1)).setCell ⟨w.heap.size + 1, 2, none⟩ (.slice b2 l2 e2))) ∧ ((((w2.setCell ⟨w.heap.size + 1, 0, none⟩ (.bool neg)).setCell ⟨w.heap.size + 1, 1, none⟩ (.slice b1 l1 e1)).setCell ⟨w.heap.size + 1, 2, none⟩ (.slice b2 l2 e2)).cell? ⟨(w.heap.size + 1), 0, none⟩ = some (.bool neg) ∧ (((w2.setCell ⟨w.heap.size + 1, 0, none⟩ (.bool neg)).setCell ⟨w.heap.size + 1, 1, none⟩ (.slice b1 l1 e1)).setCell ⟨w.heap.size + 1, 2, none⟩ (.slice b2 l2 e2)).cell? ⟨(w.heap.size + 1), 1, none⟩ = some (.slice b1 l1 e1) ∧ (((w2.setCell ⟨w.heap.size + 1, 0, none⟩ (.bool neg)).setCell ⟨w.heap.size + 1, 1, none⟩ (.slice b1 l1 e1)).setCell ⟨w.heap.size + 1, 2, none⟩ (.slice b2 l2 e2)).cell? ⟨(w.heap.size + 1), 2, none⟩ = some (.slice b2 l2 e2) ∧ (∀ o, (((w2.setCell ⟨w.heap.size + 1, 0, none⟩ (.bool neg)).setCell ⟨w.heap.size + 1, 1, none⟩ (.slice b1 l1 e1)).setCell ⟨w.heap.size + 1, 2, none⟩ (.slice b2 l2 e2)).frozen? ⟨(w.heap.size + 1), o, none⟩ = false) ∧ (w.heap.size + 1) < (((w2.setCell ⟨w.heap.size + 1, 0, none⟩ (.bool neg)).setCell ⟨w.heap.size + 1, 1, none⟩ (.slice b1 l1 e1)).setCell ⟨w.heap.size + 1, 2, none⟩ (.slice b2 l2 e2)).heap.size) ∧ Kp (((w2.setCell ⟨w.heap.size + 1, 0, none⟩ (.bool neg)).setCell ⟨w.heap.size + 1, 1, none⟩ (.slice b1 l1 e1)).setCell ⟨w.heap.size + 1, 2, none⟩ (.slice b2 l2 e2)) (((w2.setCell ⟨w.heap.size + 1, 0, none⟩ (.bool neg)).setCell ⟨w.heap.size + 1, 1, none⟩ (.slice b1 l1 e1)).setCell ⟨w.heap.size + 1, 2, none⟩ (.slice b2 l2 e2)) :=
    ⟨sf_store (sf_store (sf_store hF0.1 ⟨Nat.le_succ _, Nat.ne_of_lt (Nat.lt_succ_self _)⟩) ⟨Nat.le_succ _, Nat.ne_of_lt (Nat.lt_succ_self _)⟩) ⟨Nat.le_succ _, Nat.ne_of_lt (Nat.lt_succ_self _)⟩, bx3_store hF0.2.1 _ _ _, Kp.refl _⟩
  clear hN1 hN2 hb hkp HMR
  rw [hn0] at hnn
  have hFz := hF0.2.1
  go_wp2_with fail
  clear hF0 hFz
  generalize (((w2.setCell ⟨w.heap.size + 1, 0, none⟩ (.bool neg)).setCell ⟨w.heap.size + 1, 1, none⟩ (.slice b1 l1 e1)).setCell ⟨w.heap.size + 1, 2, none⟩ (.slice b2 l2 e2)) = A at *
  have HLG : Hid (∀ W, ((W.cell? ⟨w.heap.size, 0, none⟩ = some (.int .u8 (E : Int)) ∧ W.cell? ⟨w.heap.size, 1, none⟩ = some (.int .u8 (M : Int)) ∧ w.heap.size < W.heap.size ∧ Below w.heap.size w W) ∧ (W.cell? ⟨(w.heap.size + 1), 0, none⟩ = some (.bool neg) ∧ W.cell? ⟨(w.heap.size + 1), 1, none⟩ = some (.slice b1 l1 e1) ∧ W.cell? ⟨(w.heap.size + 1), 2, none⟩ = some (.slice b2 l2 e2) ∧ (∀ o, W.frozen? ⟨(w.heap.size + 1), o, none⟩ = false) ∧ (w.heap.size + 1) < W.heap.size) ∧ Kp A W) → Calls Oajg.prog 69 #[.slice b1 l1 e1, .slice b2 l2 e2, .int .i64 (1 - (Bi : Int) - 1), .int .i64 (Bi : Int)] W fun e w' => e = .returned (.int .i64 R) ∧ Below W.heap.size W w') := fun W hW => by
    have := log2_ok B n d b1 b2 l1 e1 l2 e2 (1 - (Bi : Int) - 1) (Bi : Int) W (HN1.out.kp hW.2.2) (HN2.out.kp hW.2.2) (by omega) (Or.inl (by omega))
    rw [HLR.out] at this
    exact this
  have kW : IntKind.i64.wrap (1 - (Bi : Int) - 1) = 1 - (Bi : Int) - 1 := by rw [IntKind.wrap_i64]; omega
  go_region_held3 (fun W => (W.cell? ⟨w.heap.size, 0, none⟩ = some (.int .u8 (E : Int)) ∧ W.cell? ⟨w.heap.size, 1, none⟩ = some (.int .u8 (M : Int)) ∧ w.heap.size < W.heap.size ∧ Below w.heap.size w W) ∧ (W.cell? ⟨(w.heap.size + 1), 0, none⟩ = some (.bool neg) ∧ W.cell? ⟨(w.heap.size + 1), 1, none⟩ = some (.slice b1 l1 e1) ∧ W.cell? ⟨(w.heap.size + 1), 2, none⟩ = some (.slice b2 l2 e2) ∧ (∀ o, W.frozen? ⟨(w.heap.size + 1), o, none⟩ = false) ∧ (w.heap.size + 1) < W.heap.size) ∧ Kp A W)
    ((repeat' (first | with_reducible assumption | with_reducible refine rf_drew ?_)))
    ((first | (go_at_call 120; refine Calls.mono (HE.out _) ?_; rintro _ w3 ⟨rfl, hb⟩; have hF3 := rf_next (by with_reducible assumption) hb; clear hb) | (go_at_call 121; refine Calls.mono (HX.out _) ?_; rintro _ w4 ⟨rfl, hb⟩; have hF4 := rf_next (by with_reducible assumption) hb; clear hb) | (go_at_call 69; (with_reducible refine Calls.mono (HLG.out _ ?hh) ?_); (case hh => with_reducible assumption); rintro _ w5 ⟨rfl, hb⟩; have hF5 := rf_next (by with_reducible assumption) hb; clear hb)))
  clear hF hF3 hF4 HLG
  go_wp2_with fail
  refine Calls.mono (HE.out _) ?_
  rintro _ w6 ⟨rfl, hb⟩
  have hF6 := rf_next hF5 hb
  clear hb hF5
  go_wp2_with fail
  refine Calls.mono (HX.out _) ?_
  rintro _ w7 ⟨rfl, hb⟩
  have hF7 := rf_next hF6 hb
  clear hb hF6
  have HSH : Hid (∀ W, ((W.cell? ⟨w.heap.size, 0, none⟩ = some (.int .u8 (E : Int)) ∧ W.cell? ⟨w.heap.size, 1, none⟩ = some (.int .u8 (M : Int)) ∧ w.heap.size < W.heap.size ∧ Below w.heap.size w W) ∧ (W.cell? ⟨(w.heap.size + 1), 0, none⟩ = some (.bool neg) ∧ W.cell? ⟨(w.heap.size + 1), 1, none⟩ = some (.slice b1 l1 e1) ∧ W.cell? ⟨(w.heap.size + 1), 2, none⟩ = some (.slice b2 l2 e2) ∧ (∀ o, W.frozen? ⟨(w.heap.size + 1), o, none⟩ = false) ∧ (w.heap.size + 1) < W.heap.size) ∧ Kp A W) → Calls Oajg.prog 66 #[.slice b1 l1 e1, .slice b2 l2 e2, .int .i64 ((M : Int) - (1 - (Bi : Int)))] W fun e w' => ∃ b1 l1 e1 b2 l2 e2, e = .returned (.tuple #[.slice b1 l1 e1, .slice b2 l2 e2]) ∧ NatIs (B + 2048) w' (.slice b1 l1 e1) N1 ∧ NatIs (B + 2048) w' (.slice b2 l2 e2) D1 ∧ Below W.heap.size W w') := fun W hW => by
    have := shift_ok B n d b1 b2 l1 e1 l2 e2 ((M : Int) - (1 - (Bi : Int))) W (HN1.out.kp hW.2.2) (HN2.out.kp hW.2.2) (by omega) (by omega) (by omega)
    rw [HN1'.out, HD1'.out] at this
    exact this
  go_wp2_with fail
  refine Calls.mono (HSH.out _ hF7) ?_
  rintro _ w8 ⟨b3, l3, e3, b4, l4, e4, rfl, hM1, hM2, hb⟩
  have hF8 := rf_next hF7 hb
  have HRA : Hid (Calls Oajg.prog 123 #[.int .u8 (mo : Int), .bool neg, .slice b3 l3 e3, .slice b4 l4 e4] w8 fun e w' => ∃ b1 l1 e1, e = .returned (.tuple #[.slice b1 l1 e1, .agg #[.int .i8 HF, .bool SM]]) ∧ NatIs (B + 2048 + 3) w' (.slice b1 l1 e1) TOP ∧ Below w8.heap.size w8 w') := by
    have := raised_ok mo neg (B + 2048) N1 D1 b3 b4 l3 e3 l4 e4 w8 hM1 hM2 (by omega) hD10
    rw [HHF.out, HSM.out, HTOPE.out] at this
    exact this
  clear hb hF7 hM1 hM2 HSH
  go_wp2_with fail
  refine Calls.mono HRA.out ?_
  rintro _ w9 ⟨b5, l5, e5, rfl, hM5, hb⟩
  have hF9 := rf_next hF8 hb
  have hG := rg_made 152 hF9 (.int .i8 HF) (.bool SM)
  have HTP : Hid (NatIs (B + 2048 + 3) (w9.alloc (.cells #[.int .i8 HF, .bool SM] 152)) (.slice b5 l5 e5) TOP) := hM5.kept ((Below.refl _ _).alloc (Nat.le_refl _) _)
  clear hb hF8 hM5 HRA
  go_wp2_with fail
  refine Calls.mono (HE.out _) ?_
  rintro _ w10 ⟨rfl, hb⟩
  have hG10 := rg_next hG hb
  clear hb
  go_wp2_with fail
  refine Calls.mono (HE.out _) ?_
  rintro _ w11 ⟨rfl, hb⟩
  have hG11 := rg_next hG10 hb
  clear hb hG10
  have HTU : Hid (∀ W, ((W.cell? ⟨w.heap.size, 0, none⟩ = some (.int .u8 (E : Int)) ∧ W.cell? ⟨w.heap.size, 1, none⟩ = some (.int .u8 (M : Int)) ∧ w.heap.size < W.heap.size ∧ Below w.heap.size w W) ∧ (W.cell? ⟨(w.heap.size + 1), 0, none⟩ = some (.bool neg) ∧ W.cell? ⟨(w.heap.size + 1), 1, none⟩ = some (.slice b1 l1 e1) ∧ W.cell? ⟨(w.heap.size + 1), 2, none⟩ = some (.slice b2 l2 e2) ∧ (∀ o, W.frozen? ⟨(w.heap.size + 1), o, none⟩ = false) ∧ (w.heap.size + 1) < W.heap.size) ∧ Kp (w9.alloc (.cells #[.int .i8 HF, .bool SM] 152)) W ∧ (W.cell? ⟨w9.heap.size, 0, none⟩ = some (.int .i8 HF) ∧ W.cell? ⟨w9.heap.size, 1, none⟩ = some (.bool SM) ∧ (∀ o, W.frozen? ⟨w9.heap.size, o, none⟩ = false) ∧ w9.heap.size < W.heap.size)) → Calls Oajg.prog 125 #[.slice b5 l5 e5] W fun e w' => e = .returned (.int .u64 (TOP : Int)) ∧ Below W.heap.size W w') := fun W hW => toU64_ok (B + 2048 + 3) _ TOP W (HTP.out.kp hW.2.2.1) (by omega) hT64
  clear hF9 hG
  go_wp2_with fail
  go_region_held3 (fun W => (W.cell? ⟨w.heap.size, 0, none⟩ = some (.int .u8 (E : Int)) ∧ W.cell? ⟨w.heap.size, 1, none⟩ = some (.int .u8 (M : Int)) ∧ w.heap.size < W.heap.size ∧ Below w.heap.size w W) ∧ (W.cell? ⟨(w.heap.size + 1), 0, none⟩ = some (.bool neg) ∧ W.cell? ⟨(w.heap.size + 1), 1, none⟩ = some (.slice b1 l1 e1) ∧ W.cell? ⟨(w.heap.size + 1), 2, none⟩ = some (.slice b2 l2 e2) ∧ (∀ o, W.frozen? ⟨(w.heap.size + 1), o, none⟩ = false) ∧ (w.heap.size + 1) < W.heap.size) ∧ Kp (w9.alloc (.cells #[.int .i8 HF, .bool SM] 152)) W ∧ (W.cell? ⟨w9.heap.size, 0, none⟩ = some (.int .i8 HF) ∧ W.cell? ⟨w9.heap.size, 1, none⟩ = some (.bool SM) ∧ (∀ o, W.frozen? ⟨w9.heap.size, o, none⟩ = false) ∧ w9.heap.size < W.heap.size))
    ((repeat' (first | with_reducible assumption | with_reducible refine rg_drew ?_)))
    ((first | (go_at_call 125; (with_reducible refine Calls.mono (HTU.out _ ?hh) ?_); (case hh => with_reducible assumption); rintro _ w12 ⟨rfl, hb⟩; have hG12 := rg_next (by with_reducible assumption) hb; clear hb) | (go_at_call 124; refine Calls.mono (HPK.out _) ?_; rintro _ w13 ⟨rfl, hb⟩; have hG13 := rg_next (by with_reducible assumption) hb; clear hb)))
  go_wp2_with fail
  go_ret2
  exact ⟨rfl, hG13.1.2.2.2⟩

set_option maxRecDepth 100000 in
set_option maxHeartbeats 4000000 in
theorem roundFlags_edge (E M : Nat) (h : FOk E M) (mo : Nat) (neg : Bool) (B n d : Nat) (a1 a2 : Option Addr) (k1 c1 k2 c2 : Nat) (w : World) (h1 : NatIs B w (.slice a1 k1 c1) n) (h2 : NatIs B w (.slice a2 k2 c2) d) (hB : B ≤ 1000000) (hd : d ≠ 0) (hn : n ≠ 0) (R : Int) (hR : rfR E n d = R) (heq : R = 1 - (biasN E : Int) - 1) :
    Calls Oajg.prog 67 #[.agg #[.int .u8 (E : Int), .int .u8 (M : Int)], .int .u8 (mo : Int), .agg #[.bool neg, .slice a1 k1 c1, .slice a2 k2 c2]] w fun e w' => e = .returned (.tuple #[.int .u64 (rfN E M mo neg n d : Nat), .int .u8 (rfF E M mo neg n d : Nat)]) ∧ Below w.heap.size w w' := by
  have hF0 : (((w.alloc (.cells #[.int .u8 (E : Int), .int .u8 (M : Int)] 23)).alloc (.cells #[.bool neg, .slice a1 k1 c1, .slice a2 k2 c2] 48)).cell? ⟨w.heap.size, 0, none⟩ = some (.int .u8 (E : Int)) ∧ ((w.alloc (.cells #[.int .u8 (E : Int), .int .u8 (M : Int)] 23)).alloc (.cells #[.bool neg, .slice a1 k1 c1, .slice a2 k2 c2] 48)).cell? ⟨w.heap.size, 1, none⟩ = some (.int .u8 (M : Int)) ∧ w.heap.size < ((w.alloc (.cells #[.int .u8 (E : Int), .int .u8 (M : Int)] 23)).alloc (.cells #[.bool neg, .slice a1 k1 c1, .slice a2 k2 c2] 48)).heap.size ∧ Below w.heap.size w ((w.alloc (.cells #[.int .u8 (E : Int), .int .u8 (M : Int)] 23)).alloc (.cells #[.bool neg, .slice a1 k1 c1, .slice a2 k2 c2] 48))) ∧ (((w.alloc (.cells #[.int .u8 (E : Int), .int .u8 (M : Int)] 23)).alloc (.cells #[.bool neg, .slice a1 k1 c1, .slice a2 k2 c2] 48)).cell? ⟨(w.heap.size + 1), 0, none⟩ = some (.bool neg) ∧ ((w.alloc (.cells #[.int .u8 (E : Int), .int .u8 (M : Int)] 23)).alloc (.cells #[.bool neg, .slice a1 k1 c1, .slice a2 k2 c2] 48)).cell? ⟨(w.heap.size + 1), 1, none⟩ = some (.slice a1 k1 c1) ∧ ((w.alloc (.cells #[.int .u8 (E : Int), .int .u8 (M : Int)] 23)).alloc (.cells #[.bool neg, .slice a1 k1 c1, .slice a2 k2 c2] 48)).cell? ⟨(w.heap.size + 1), 2, none⟩ = some (.slice a2 k2 c2) ∧ (∀ o, ((w.alloc (.cells #[.int .u8 (E : Int), .int .u8 (M : Int)] 23)).alloc (.cells #[.bool neg, .slice a1 k1 c1, .slice a2 k2 c2] 48)).frozen? ⟨(w.heap.size + 1), o, none⟩ = false) ∧ (w.heap.size + 1) < ((w.alloc (.cells #[.int .u8 (E : Int), .int .u8 (M : Int)] 23)).alloc (.cells #[.bool neg, .slice a1 k1 c1, .slice a2 k2 c2] 48)).heap.size) ∧ Kp w ((w.alloc (.cells #[.int .u8 (E : Int), .int .u8 (M : Int)] 23)).alloc (.cells #[.bool neg, .slice a1 k1 c1, .slice a2 k2 c2] 48)) :=
    ⟨sf_alloc (sf_box w E M) _, bx3_made (w.alloc (.cells #[.int .u8 (E : Int), .int .u8 (M : Int)] 23)) (m := w.heap.size + 1) _ _ _ 48 (by simp), ((Kp.refl w).alloc _).alloc _⟩
  have HO : Hid (∀ w, Calls Oajg.prog 17 #[.agg #[.int .u8 (E : Int), .int .u8 (M : Int)]] w fun e w' => e = .returned (.bool true) ∧ Below w.heap.size w w') := ok_yes h
  have HMR : Hid (∀ W, Kp w W → Calls Oajg.prog 118 #[.bool neg, .slice a1 k1 c1, .slice a2 k2 c2] W fun e w' => ∃ b1 l1 e1 b2 l2 e2, e = .returned (.agg #[.bool neg, .slice b1 l1 e1, .slice b2 l2 e2]) ∧ NatIs B w' (.slice b1 l1 e1) n ∧ NatIs B w' (.slice b2 l2 e2) d ∧ Below W.heap.size W w') := fun W hW => makeRat_ok neg B n d a1 a2 k1 c1 k2 c2 W (h1.kp hW) (h2.kp hW) (by omega) hd
  have HE : Hid (∀ w, Calls Oajg.prog 120 #[.agg #[.int .u8 (E : Int), .int .u8 (M : Int)]] w fun e w' => e = .returned (.int .i64 (1 - (biasN E : Int))) ∧ Below w.heap.size w w') := emin_ok E M h
  have HX : Hid (∀ w, Calls Oajg.prog 121 #[.agg #[.int .u8 (E : Int), .int .u8 (M : Int)]] w fun e w' => e = .returned (.int .i64 (biasN E : Nat)) ∧ Below w.heap.size w w') := emax_ok E M h
  have hnil := eql_nil
  have hbi := biasN_le h.e11
  have hM52 := h.m52
  have hRb := lg2_range (n := n) (d := d) (lo := 1 - (biasN E : Int) - 1) (hi := (biasN E : Int)) (by have := biasN_pos h.e2; omega)
  have HRR : Hid (rfR E n d = R) := hR
  have hR' : lg2 n d (1 - (biasN E : Int) - 1) (biasN E : Int) = R := hR
  rw [hR'] at hRb
  obtain ⟨hRb1, hRb2⟩ := hRb
  have hbi1 := biasN_pos h.e2
  have hE' : rfE E n d = 1 - (biasN E : Int) := by unfold rfE; rw [hR]; omega
  have hle2 : rfR E n d ≤ biasN E := by rw [hR]; omega
  obtain ⟨D, hD⟩ : ∃ D : Nat, D = (1 - (biasN E : Int) - (1 - (biasN E : Int))).toNat := ⟨_, rfl⟩
  have kD : 1 - (biasN E : Int) + (D : Int) = 1 - (biasN E : Int) := by omega
  have hDE : D ≤ 2 ^ E := by
    have e1 : 2 ^ E = 2 * 2 ^ (E - 1) := by
      have := h.e2
      rw [← Nat.pow_succ']; congr 1; omega
    have e2 : biasN E = 2 ^ (E - 1) - 1 := rfl
    have := pp (E - 1)
    omega
  have hTL : rfTop mo neg n d ((M : Int) - (1 - (biasN E : Int))) ≤ 2 ^ (M + 1) := rfTop_le hn hd hle2 (by rw [hR]; omega)
  have hM53 : 2 ^ (M + 1) ≤ 2 ^ 53 := Nat.pow_le_pow_right (by decide) (by omega)
  obtain ⟨N1, HN1'⟩ : ∃ N1, Hid (n * 2 ^ ((M : Int) - (1 - (biasN E : Int))).toNat = N1) := ⟨_, rfl⟩
  obtain ⟨D1, HD1'⟩ : ∃ D1, Hid (d * 2 ^ (-((M : Int) - (1 - (biasN E : Int)))).toNat = D1) := ⟨_, rfl⟩
  have hD10 : D1 ≠ 0 := by rw [← HD1'.out]; exact Nat.mul_ne_zero hd (Nat.ne_of_gt (pp _))
  obtain ⟨TOP, HTOPE⟩ : ∃ TOP, Hid (rzN mo neg N1 D1 = TOP) := ⟨_, rfl⟩
  obtain ⟨HF, HHF⟩ : ∃ HF, Hid (hfX N1 D1 = HF) := ⟨_, rfl⟩
  obtain ⟨SM, HSM⟩ : ∃ SM, Hid (smX N1 D1 = SM) := ⟨_, rfl⟩
  have eTop : rfTop mo neg n d ((M : Int) - (1 - (biasN E : Int))) = TOP := by unfold rfTop; rw [HN1'.out, HD1'.out, HTOPE.out]
  have eSm : rfSm n d ((M : Int) - (1 - (biasN E : Int))) = SM := by unfold rfSm; rw [HN1'.out, HD1'.out, HSM.out]
  rw [eTop] at hTL
  have hT64 : TOP < 18446744073709551616 := by omega
  obtain ⟨N2, HN2'⟩ : ∃ N2, Hid (n * 2 ^ ((M : Int) - R).toNat = N2) := ⟨_, rfl⟩
  obtain ⟨D2, HD2'⟩ : ∃ D2, Hid (d * 2 ^ (-((M : Int) - R)).toNat = D2) := ⟨_, rfl⟩
  have hD20 : D2 ≠ 0 := by rw [← HD2'.out]; exact Nat.mul_ne_zero hd (Nat.ne_of_gt (pp _))
  obtain ⟨FULL, HFULLE⟩ : ∃ FULL, Hid (rzN mo neg N2 D2 = FULL) := ⟨_, rfl⟩
  have eFull : rfTop mo neg n d ((M : Int) - R) = FULL := by unfold rfTop; rw [HN2'.out, HD2'.out, HFULLE.out]
  obtain ⟨T, hT⟩ : ∃ T, T = (bitLen FULL == M + 1) := ⟨_, rfl⟩
  have eTiny : rfTiny E M mo neg n d = T := by unfold rfTiny; rw [hR, if_pos heq, eFull, hT]
  have hFL : bitLen FULL ≤ 100 := by
    have hq : rfTop mo neg n d ((M : Int) - R) ≤ 2 ^ (M + 1) := rfTop_le hn hd hle2 (by rw [hR]; omega)
    rw [eFull] at hq
    exact Nat.le_trans (bitLen_le_of_lt (n := M + 2) (by rw [Nat.pow_succ]; have := pp (M + 1); omega)) (by omega)
  have kT : (((bitLen FULL : Nat) : Int) == (M : Int) + 1) = T := by
    rw [hT]
    by_cases hh : bitLen FULL = M + 1
    · simp [hh]
    · have h3 : ¬ ((bitLen FULL : Nat) : Int) = (M : Int) + 1 := by omega
      rw [beq_eq_false_iff_ne.2 h3, beq_eq_false_iff_ne.2 hh]
  have HRES : Hid (rfN E M mo neg n d = pkN E M mo neg D TOP SM T ∧ rfF E M mo neg n d = pkF E M D TOP SM T) := ⟨by unfold rfN; rw [if_neg hn, hE', if_neg (by omega), eTop, eSm, eTiny, ← hD], by unfold rfF; rw [if_neg hn, hE', if_neg (by omega), eTop, eSm, eTiny, ← hD]⟩
  have HPK : Hid (∀ w, Calls Oajg.prog 124 #[.agg #[.int .u8 (E : Int), .int .u8 (M : Int)], .int .u8 (mo : Int), .bool neg, .int .i64 (1 - (biasN E : Int)), .int .u64 (TOP : Int), .agg #[.int .i8 HF, .bool SM], .bool T] w fun e w' => e = .returned (.tuple #[.int .u64 (pkN E M mo neg D TOP SM T : Nat), .int .u8 (pkF E M D TOP SM T : Nat)]) ∧ Below w.heap.size w w') := fun w => by
    have := pack_ok E M h mo neg D TOP HF SM T hDE hTL w
    rw [kD] at this
    exact this
  have hn0 : (n == 0) = false := by simp [hn]
  have HLR : Hid (lg2 n d (1 - (biasN E : Int) - 1) (biasN E : Int) = R) := hR'
  rw [HRES.out.1, HRES.out.2]
  generalize pkN E M mo neg D TOP SM T = PN at *
  generalize pkF E M D TOP SM T = PF at *
  generalize biasN E = Bi at *
  clear h h1 h2 hn HRES hE' HRR hR hR' hle2 hDE hTL hM53 eTop eSm eTiny hD kD
  have jE : (R == 1 - (Bi : Int) - 1) = true := by simp [heq]
  have hlt : R < 1 - (Bi : Int) := by omega
  clear heq eFull hT
  go_enter Oajg.func67, Oajg.ntmps67
  go_wp2_with fail
  refine Calls.mono (HO.out _) ?_
  rintro _ w1 ⟨rfl, hb⟩
  replace hF0 := rf_next hF0 hb
  clear hb HO
  go_wp2_with fail
  refine Calls.mono (HMR.out _ hF0.2.2) ?_
  rintro _ w2 ⟨b1, l1, e1, b2, l2, e2, rfl, hN1, hN2, hb⟩
  replace hF0 := rf_next hF0 hb
  have hkp := store3 hF0.2.1 (not32_bool _) (not32_slice _ _ _) (not32_slice _ _ _) (.bool neg) (.slice b1 l1 e1) (.slice b2 l2 e2)
  have hnn := hN1.none_eq
  have HN1 : Hid (NatIs B (((w2.setCell ⟨w.heap.size + 1, 0, none⟩ (.bool neg)).setCell ⟨w.heap.size + 1, 1, none⟩ (.slice b1 l1 e1)).setCell ⟨w.heap.size + 1, 2, none⟩ (.slice b2 l2 e2)) (.slice b1 l1 e1) n) := hN1.kp hkp
  have HN2 : Hid (NatIs B (((w2.setCell ⟨w.heap.size + 1, 0, none⟩ (.bool neg)).setCell ⟨w.heap.size + 1, 1, none⟩ (.slice b1 l1 e1)).setCell ⟨w.heap.size + 1, 2, none⟩ (.slice b2 l2 e2)) (.slice b2 l2 e2) d) := hN2.kp hkp
  have hF : ((((w2.setCell ⟨w.heap.size + 1, 0, none⟩ (.bool neg)).setCell ⟨w.heap.size + 1, 1, none⟩ (.slice b1 l1 e1)).setCell ⟨w.heap.size + 1, 2, none⟩ (.slice b2 l2 e2)).cell? ⟨w.heap.size, 0, none⟩ = some (.int .u8 (E : Int)) ∧ (((w2.setCell ⟨w.heap.size + 1, 0, none⟩ (.bool neg)).setCell ⟨w.heap.size + 1, 1, none⟩ (.slice b1 l1 e1)).setCell ⟨w.heap.size + 1, 2, none⟩ (.slice b2 l2 e2)).cell? ⟨w.heap.size, 1, none⟩ = some (.int .u8 (M : Int)) ∧ w.heap.size < (((w2.setCell ⟨w.heap.size + 1, 0, none⟩ (.bool neg)).setCell ⟨w.heap.size + 1, 1, none⟩ (.slice b1 l1 e1)).setCell ⟨w.heap.size + 1, 2, none⟩ (.slice b2 l2 e2)).heap.size ∧ Below w.heap.size w (((w2.setCell ⟨w.heap.size + 1, 0, none⟩ (.bool neg)).setCell ⟨w.heap.size + 1, 1, none⟩ (.slice b1 l1 e1)).setCell ⟨w.heap.size + 1, 2, none⟩ (.slice b2 l2 e2))) ∧ ((((w2.setCell ⟨w.heap.size + 1, 0, none⟩ (.bool neg)).setCell ⟨w.heap.size + 1, 1, none⟩ (.slice b1 l1 e1)).setCell ⟨w.heap.size + 1, 2, none⟩ (.slice b2 l2 e2)).cell? ⟨(w.heap.size + 1), 0, none⟩ = some (.bool neg) ∧ (((w2.setCell ⟨w.heap.size + 1, 0, none⟩ (.bool neg)).setCell ⟨w.heap.size + 1, 1, none⟩ (.slice b1 l1 e1)).setCell ⟨w.heap.size + 1, 2, none⟩ (.slice b2 l2 e2)).cell? ⟨(w.heap.size + 1), 1, none⟩ = some (.slice b1 l1 e1) ∧ (((w2.setCell ⟨w.heap.size + 1, 0, none⟩ (.bool neg)).setCell ⟨w.heap.size + 1, 1, none⟩ (.slice b1 l1 e1)).setCell ⟨w.heap.size + 1, 2, none⟩ (.slice b2 l2 e2)).cell? ⟨(w.heap.size + 1), 2, none⟩ = some (.slice b2 l2 e2) ∧ (∀ o, (((w2.setCell ⟨w.heap.size + 1, 0, none⟩ (.bool neg)).setCell ⟨w.heap.size + 1, 1, none⟩ (.slice b1 l1 e1)).setCell ⟨w.heap.size + 1, 2, none⟩ (.slice b2 l2 e2)).frozen? ⟨(w.heap.size + 1), o, none⟩ = false) ∧ (w.heap.size + 1) < (((w2.setCell ⟨w.heap.size + 1, 0, none⟩ (.bool neg)).setCell ⟨w.heap.size + 1, 1, none⟩ (.slice b1 l1 e1)).setCell ⟨w.heap.size + 1, 2, none⟩ (.slice b2 l2 e2)).heap.size) ∧ Kp (((w2.setCell ⟨w.heap.size + 1, 0, none⟩ (.bool neg)).setCell ⟨w.heap.size + 1, 1, none⟩ (.slice b1 l1 e1)).setCell ⟨w.heap.size + 1, 2, none⟩ (.slice b2 l2 e2)) (((w2.setCell ⟨w.heap.size + 1, 0, none⟩ (.bool neg)).setCell ⟨w.heap.size + 1, 1, none⟩ (.slice b1 l1 e1)).setCell ⟨w.heap.size + 1, 2, none⟩ (.slice b2 l2 e2)) :=
    ⟨sf_store (sf_store (sf_store hF0.1 ⟨Nat.le_succ _, Nat.ne_of_lt (Nat.lt_succ_self _)⟩) ⟨Nat.le_succ _, Nat.ne_of_lt (Nat.lt_succ_self _)⟩) ⟨Nat.le_succ _, Nat.ne_of_lt (Nat.lt_succ_self _)⟩, bx3_store hF0.2.1 _ _ _, Kp.refl _⟩
  clear hN1 hN2 hb hkp HMR
  rw [hn0] at hnn
  have hFz := hF0.2.1
  go_wp2_with fail
  clear hF0 hFz
  generalize (((w2.setCell ⟨w.heap.size + 1, 0, none⟩ (.bool neg)).setCell ⟨w.heap.size + 1, 1, none⟩ (.slice b1 l1 e1)).setCell ⟨w.heap.size + 1, 2, none⟩ (.slice b2 l2 e2)) = A at *
  have HLG : Hid (∀ W, ((W.cell? ⟨w.heap.size, 0, none⟩ = some (.int .u8 (E : Int)) ∧ W.cell? ⟨w.heap.size, 1, none⟩ = some (.int .u8 (M : Int)) ∧ w.heap.size < W.heap.size ∧ Below w.heap.size w W) ∧ (W.cell? ⟨(w.heap.size + 1), 0, none⟩ = some (.bool neg) ∧ W.cell? ⟨(w.heap.size + 1), 1, none⟩ = some (.slice b1 l1 e1) ∧ W.cell? ⟨(w.heap.size + 1), 2, none⟩ = some (.slice b2 l2 e2) ∧ (∀ o, W.frozen? ⟨(w.heap.size + 1), o, none⟩ = false) ∧ (w.heap.size + 1) < W.heap.size) ∧ Kp A W) → Calls Oajg.prog 69 #[.slice b1 l1 e1, .slice b2 l2 e2, .int .i64 (1 - (Bi : Int) - 1), .int .i64 (Bi : Int)] W fun e w' => e = .returned (.int .i64 R) ∧ Below W.heap.size W w') := fun W hW => by
    have := log2_ok B n d b1 b2 l1 e1 l2 e2 (1 - (Bi : Int) - 1) (Bi : Int) W (HN1.out.kp hW.2.2) (HN2.out.kp hW.2.2) (by omega) (Or.inl (by omega))
    rw [HLR.out] at this
    exact this
  have kW : IntKind.i64.wrap (1 - (Bi : Int) - 1) = 1 - (Bi : Int) - 1 := by rw [IntKind.wrap_i64]; omega
  go_region_held3 (fun W => (W.cell? ⟨w.heap.size, 0, none⟩ = some (.int .u8 (E : Int)) ∧ W.cell? ⟨w.heap.size, 1, none⟩ = some (.int .u8 (M : Int)) ∧ w.heap.size < W.heap.size ∧ Below w.heap.size w W) ∧ (W.cell? ⟨(w.heap.size + 1), 0, none⟩ = some (.bool neg) ∧ W.cell? ⟨(w.heap.size + 1), 1, none⟩ = some (.slice b1 l1 e1) ∧ W.cell? ⟨(w.heap.size + 1), 2, none⟩ = some (.slice b2 l2 e2) ∧ (∀ o, W.frozen? ⟨(w.heap.size + 1), o, none⟩ = false) ∧ (w.heap.size + 1) < W.heap.size) ∧ Kp A W)
    ((repeat' (first | with_reducible assumption | with_reducible refine rf_drew ?_)))
    ((first | (go_at_call 120; refine Calls.mono (HE.out _) ?_; rintro _ w3 ⟨rfl, hb⟩; have hF3 := rf_next (by with_reducible assumption) hb; clear hb) | (go_at_call 121; refine Calls.mono (HX.out _) ?_; rintro _ w4 ⟨rfl, hb⟩; have hF4 := rf_next (by with_reducible assumption) hb; clear hb) | (go_at_call 69; (with_reducible refine Calls.mono (HLG.out _ ?hh) ?_); (case hh => with_reducible assumption); rintro _ w5 ⟨rfl, hb⟩; have hF5 := rf_next (by with_reducible assumption) hb; clear hb)))
  clear hF hF3 hF4 HLG
  go_wp2_with fail
  refine Calls.mono (HE.out _) ?_
  rintro _ w6 ⟨rfl, hb⟩
  have hF6 := rf_next hF5 hb
  clear hb hF5
  go_wp2_with fail
  refine Calls.mono (HX.out _) ?_
  rintro _ w7 ⟨rfl, hb⟩
  have hF7 := rf_next hF6 hb
  clear hb hF6
  have HSH : Hid (∀ W, ((W.cell? ⟨w.heap.size, 0, none⟩ = some (.int .u8 (E : Int)) ∧ W.cell? ⟨w.heap.size, 1, none⟩ = some (.int .u8 (M : Int)) ∧ w.heap.size < W.heap.size ∧ Below w.heap.size w W) ∧ (W.cell? ⟨(w.heap.size + 1), 0, none⟩ = some (.bool neg) ∧ W.cell? ⟨(w.heap.size + 1), 1, none⟩ = some (.slice b1 l1 e1) ∧ W.cell? ⟨(w.heap.size + 1), 2, none⟩ = some (.slice b2 l2 e2) ∧ (∀ o, W.frozen? ⟨(w.heap.size + 1), o, none⟩ = false) ∧ (w.heap.size + 1) < W.heap.size) ∧ Kp A W) → Calls Oajg.prog 66 #[.slice b1 l1 e1, .slice b2 l2 e2, .int .i64 ((M : Int) - (1 - (Bi : Int)))] W fun e w' => ∃ b1 l1 e1 b2 l2 e2, e = .returned (.tuple #[.slice b1 l1 e1, .slice b2 l2 e2]) ∧ NatIs (B + 2048) w' (.slice b1 l1 e1) N1 ∧ NatIs (B + 2048) w' (.slice b2 l2 e2) D1 ∧ Below W.heap.size W w') := fun W hW => by
    have := shift_ok B n d b1 b2 l1 e1 l2 e2 ((M : Int) - (1 - (Bi : Int))) W (HN1.out.kp hW.2.2) (HN2.out.kp hW.2.2) (by omega) (by omega) (by omega)
    rw [HN1'.out, HD1'.out] at this
    exact this
  go_wp2_with fail
  refine Calls.mono (HSH.out _ hF7) ?_
  rintro _ w8 ⟨b3, l3, e3, b4, l4, e4, rfl, hM1, hM2, hb⟩
  have hF8 := rf_next hF7 hb
  have HRA : Hid (Calls Oajg.prog 123 #[.int .u8 (mo : Int), .bool neg, .slice b3 l3 e3, .slice b4 l4 e4] w8 fun e w' => ∃ b1 l1 e1, e = .returned (.tuple #[.slice b1 l1 e1, .agg #[.int .i8 HF, .bool SM]]) ∧ NatIs (B + 2048 + 3) w' (.slice b1 l1 e1) TOP ∧ Below w8.heap.size w8 w') := by
    have := raised_ok mo neg (B + 2048) N1 D1 b3 b4 l3 e3 l4 e4 w8 hM1 hM2 (by omega) hD10
    rw [HHF.out, HSM.out, HTOPE.out] at this
    exact this
  clear hb hF7 hM1 hM2 HSH
  go_wp2_with fail
  refine Calls.mono HRA.out ?_
  rintro _ w9 ⟨b5, l5, e5, rfl, hM5, hb⟩
  have hF9 := rf_next hF8 hb
  have hG := rg_made 152 hF9 (.int .i8 HF) (.bool SM)
  have HTP : Hid (NatIs (B + 2048 + 3) (w9.alloc (.cells #[.int .i8 HF, .bool SM] 152)) (.slice b5 l5 e5) TOP) := hM5.kept ((Below.refl _ _).alloc (Nat.le_refl _) _)
  clear hb hF8 hM5 HRA
  go_wp2_with fail
  refine Calls.mono (HE.out _) ?_
  rintro _ w10 ⟨rfl, hb⟩
  have hG10 := rg_next hG hb
  clear hb
  go_wp2_with fail
  refine Calls.mono (HE.out _) ?_
  rintro _ w11 ⟨rfl, hb⟩
  have hG11 := rg_next hG10 hb
  clear hb hG10
  have HSH2 : Hid (Calls Oajg.prog 66 #[.slice b1 l1 e1, .slice b2 l2 e2, .int .i64 ((M : Int) - R)] w11 fun e w' => ∃ b1 l1 e1 b2 l2 e2, e = .returned (.tuple #[.slice b1 l1 e1, .slice b2 l2 e2]) ∧ NatIs (B + 2048) w' (.slice b1 l1 e1) N2 ∧ NatIs (B + 2048) w' (.slice b2 l2 e2) D2 ∧ Below w11.heap.size w11 w') := by
    have hk : Kp A w11 := (hF9.2.2.alloc _).trans hG11.2.2.1
    have := shift_ok B n d b1 b2 l1 e1 l2 e2 ((M : Int) - R) w11 (HN1.out.kp hk) (HN2.out.kp hk) (by omega) (by omega) (by omega)
    rw [HN2'.out, HD2'.out] at this
    exact this
  clear hF9 hG
  go_wp2_with fail
  refine Calls.mono HSH2.out ?_
  rintro _ w12 ⟨b6, l6, e6, b7, l7, e7, rfl, hM1, hM2, hb⟩
  have hG12 := rg_next hG11 hb
  have HRA2 : Hid (Calls Oajg.prog 123 #[.int .u8 (mo : Int), .bool neg, .slice b6 l6 e6, .slice b7 l7 e7] w12 fun e w' => ∃ b1 l1 e1, e = .returned (.tuple #[.slice b1 l1 e1, .agg #[.int .i8 (hfX N2 D2), .bool (smX N2 D2)]]) ∧ NatIs (B + 2048 + 3) w' (.slice b1 l1 e1) FULL ∧ Below w12.heap.size w12 w') := by
    have := raised_ok mo neg (B + 2048) N2 D2 b6 b7 l6 e6 l7 e7 w12 hM1 hM2 (by omega) hD20
    rw [HFULLE.out] at this
    exact this
  clear hb hG11 hM1 hM2 HSH2
  generalize hfX N2 D2 = HF2 at *
  generalize smX N2 D2 = SM2 at *
  go_wp2_with fail
  refine Calls.mono HRA2.out ?_
  rintro _ w13 ⟨b8, l8, e8, rfl, hM8, hb⟩
  have hG13 := rg_next hG12 hb
  have hG14 := rg_base (rg_alloc hG13 (.cells #[.int .i8 HF2, .bool SM2] 152))
  have HFU : Hid (NatIs (B + 2048 + 3) (w13.alloc (.cells #[.int .i8 HF2, .bool SM2] 152)) (.slice b8 l8 e8) FULL) := hM8.kept ((Below.refl _ _).alloc (Nat.le_refl _) _)
  have HTP2 : Hid (NatIs (B + 2048 + 3) (w13.alloc (.cells #[.int .i8 HF2, .bool SM2] 152)) (.slice b5 l5 e5) TOP) := (HTP.out.kp hG13.2.2.1).kept ((Below.refl _ _).alloc (Nat.le_refl _) _)
  have HBL : Hid (∀ W, ((W.cell? ⟨w.heap.size, 0, none⟩ = some (.int .u8 (E : Int)) ∧ W.cell? ⟨w.heap.size, 1, none⟩ = some (.int .u8 (M : Int)) ∧ w.heap.size < W.heap.size ∧ Below w.heap.size w W) ∧ (W.cell? ⟨(w.heap.size + 1), 0, none⟩ = some (.bool neg) ∧ W.cell? ⟨(w.heap.size + 1), 1, none⟩ = some (.slice b1 l1 e1) ∧ W.cell? ⟨(w.heap.size + 1), 2, none⟩ = some (.slice b2 l2 e2) ∧ (∀ o, W.frozen? ⟨(w.heap.size + 1), o, none⟩ = false) ∧ (w.heap.size + 1) < W.heap.size) ∧ Kp (w13.alloc (.cells #[.int .i8 HF2, .bool SM2] 152)) W ∧ (W.cell? ⟨w9.heap.size, 0, none⟩ = some (.int .i8 HF) ∧ W.cell? ⟨w9.heap.size, 1, none⟩ = some (.bool SM) ∧ (∀ o, W.frozen? ⟨w9.heap.size, o, none⟩ = false) ∧ w9.heap.size < W.heap.size)) → Calls Oajg.prog 68 #[.slice b8 l8 e8] W fun e w' => e = .returned (.int .i64 (bitLen FULL : Nat)) ∧ Below W.heap.size W w') := fun W hW => bitLen_ok (B + 2048 + 3) _ FULL W (HFU.out.kp hW.2.2.1) (by omega)
  have HTU : Hid (∀ W, ((W.cell? ⟨w.heap.size, 0, none⟩ = some (.int .u8 (E : Int)) ∧ W.cell? ⟨w.heap.size, 1, none⟩ = some (.int .u8 (M : Int)) ∧ w.heap.size < W.heap.size ∧ Below w.heap.size w W) ∧ (W.cell? ⟨(w.heap.size + 1), 0, none⟩ = some (.bool neg) ∧ W.cell? ⟨(w.heap.size + 1), 1, none⟩ = some (.slice b1 l1 e1) ∧ W.cell? ⟨(w.heap.size + 1), 2, none⟩ = some (.slice b2 l2 e2) ∧ (∀ o, W.frozen? ⟨(w.heap.size + 1), o, none⟩ = false) ∧ (w.heap.size + 1) < W.heap.size) ∧ Kp (w13.alloc (.cells #[.int .i8 HF2, .bool SM2] 152)) W ∧ (W.cell? ⟨w9.heap.size, 0, none⟩ = some (.int .i8 HF) ∧ W.cell? ⟨w9.heap.size, 1, none⟩ = some (.bool SM) ∧ (∀ o, W.frozen? ⟨w9.heap.size, o, none⟩ = false) ∧ w9.heap.size < W.heap.size)) → Calls Oajg.prog 125 #[.slice b5 l5 e5] W fun e w' => e = .returned (.int .u64 (TOP : Int)) ∧ Below W.heap.size W w') := fun W hW => toU64_ok (B + 2048 + 3) _ TOP W (HTP2.out.kp hW.2.2.1) (by omega) hT64
  clear hb hG12 hG13 hM8 HRA2
  generalize bitLen FULL = BF at *
  have kT2 : ((BF : Int) == IntKind.i64.wrap (IntKind.i64.wrap (M : Int) + 1)) = T := by
    rw [show IntKind.i64.wrap (M : Int) = (M : Int) from by rw [IntKind.wrap_i64]; omega, show IntKind.i64.wrap ((M : Int) + 1) = (M : Int) + 1 from by rw [IntKind.wrap_i64]; omega]; exact kT
  go_wp2_with fail
  go_region_held3 (fun W => (W.cell? ⟨w.heap.size, 0, none⟩ = some (.int .u8 (E : Int)) ∧ W.cell? ⟨w.heap.size, 1, none⟩ = some (.int .u8 (M : Int)) ∧ w.heap.size < W.heap.size ∧ Below w.heap.size w W) ∧ (W.cell? ⟨(w.heap.size + 1), 0, none⟩ = some (.bool neg) ∧ W.cell? ⟨(w.heap.size + 1), 1, none⟩ = some (.slice b1 l1 e1) ∧ W.cell? ⟨(w.heap.size + 1), 2, none⟩ = some (.slice b2 l2 e2) ∧ (∀ o, W.frozen? ⟨(w.heap.size + 1), o, none⟩ = false) ∧ (w.heap.size + 1) < W.heap.size) ∧ Kp (w13.alloc (.cells #[.int .i8 HF2, .bool SM2] 152)) W ∧ (W.cell? ⟨w9.heap.size, 0, none⟩ = some (.int .i8 HF) ∧ W.cell? ⟨w9.heap.size, 1, none⟩ = some (.bool SM) ∧ (∀ o, W.frozen? ⟨w9.heap.size, o, none⟩ = false) ∧ w9.heap.size < W.heap.size))
    ((repeat' (first | with_reducible assumption | with_reducible refine rg_drew ?_)))
    ((go_at_call 68; (with_reducible refine Calls.mono (HBL.out _ ?hh) ?_); (case hh => with_reducible assumption); rintro _ w14 ⟨rfl, hb⟩; have hG15 := rg_next (by with_reducible assumption) hb; clear hb))
  clear hG14
  go_wp2_with fail
  go_region_held3 (fun W => (W.cell? ⟨w.heap.size, 0, none⟩ = some (.int .u8 (E : Int)) ∧ W.cell? ⟨w.heap.size, 1, none⟩ = some (.int .u8 (M : Int)) ∧ w.heap.size < W.heap.size ∧ Below w.heap.size w W) ∧ (W.cell? ⟨(w.heap.size + 1), 0, none⟩ = some (.bool neg) ∧ W.cell? ⟨(w.heap.size + 1), 1, none⟩ = some (.slice b1 l1 e1) ∧ W.cell? ⟨(w.heap.size + 1), 2, none⟩ = some (.slice b2 l2 e2) ∧ (∀ o, W.frozen? ⟨(w.heap.size + 1), o, none⟩ = false) ∧ (w.heap.size + 1) < W.heap.size) ∧ Kp (w13.alloc (.cells #[.int .i8 HF2, .bool SM2] 152)) W ∧ (W.cell? ⟨w9.heap.size, 0, none⟩ = some (.int .i8 HF) ∧ W.cell? ⟨w9.heap.size, 1, none⟩ = some (.bool SM) ∧ (∀ o, W.frozen? ⟨w9.heap.size, o, none⟩ = false) ∧ w9.heap.size < W.heap.size))
    ((repeat' (first | with_reducible assumption | with_reducible refine rg_drew ?_)))
    ((first | (go_at_call 125; (with_reducible refine Calls.mono (HTU.out _ ?hh) ?_); (case hh => with_reducible assumption); rintro _ w15 ⟨rfl, hb⟩; have hG16 := rg_next (by with_reducible assumption) hb; clear hb) | (go_at_call 124; refine Calls.mono (HPK.out _) ?_; rintro _ w16 ⟨rfl, hb⟩; have hG17 := rg_next (by with_reducible assumption) hb; clear hb)))
  go_wp2_with fail
  go_ret2
  exact ⟨rfl, hG17.1.2.2.2⟩

/-- exact.RoundFlags -/
theorem roundFlags_ok (E M : Nat) (h : FOk E M) (mo : Nat) (neg : Bool) (B n d : Nat) (a1 a2 : Option Addr) (k1 c1 k2 c2 : Nat) (w : World) (h1 : NatIs B w (.slice a1 k1 c1) n) (h2 : NatIs B w (.slice a2 k2 c2) d) (hB : B ≤ 1000000) (hd : d ≠ 0) :
    Calls Oajg.prog 67 #[.agg #[.int .u8 (E : Int), .int .u8 (M : Int)], .int .u8 (mo : Int), .agg #[.bool neg, .slice a1 k1 c1, .slice a2 k2 c2]] w fun e w' => e = .returned (.tuple #[.int .u64 (rfN E M mo neg n d : Nat), .int .u8 (rfF E M mo neg n d : Nat)]) ∧ Below w.heap.size w w' := by
  by_cases hn : n = 0
  · exact roundFlags_zero E M h mo neg B n d a1 a2 k1 c1 k2 c2 w h1 h2 hB hd hn
  by_cases hov : (biasN E : Int) < rfR E n d
  · exact roundFlags_over E M h mo neg B n d a1 a2 k1 c1 k2 c2 w h1 h2 hB hd hn _ rfl hov
  by_cases hge : 1 - (biasN E : Int) ≤ rfR E n d
  · exact roundFlags_norm E M h mo neg B n d a1 a2 k1 c1 k2 c2 w h1 h2 hB hd hn _ rfl hge (by omega)
  by_cases heq : rfR E n d = 1 - (biasN E : Int) - 1
  · exact roundFlags_edge E M h mo neg B n d a1 a2 k1 c1 k2 c2 w h1 h2 hB hd hn _ rfl heq
  · exact roundFlags_tiny E M h mo neg B n d a1 a2 k1 c1 k2 c2 w h1 h2 hB hd hn _ rfl (by omega) heq

end Go.Proofs.Ygcoaj
