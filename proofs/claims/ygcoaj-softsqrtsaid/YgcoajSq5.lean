/-
  WALKS: exact.SqrtFlags (102).
-/
import Derived.Test.YgcoajSqP
set_option linter.unusedVariables false
set_option linter.unusedSimpArgs false
namespace Go.Proofs.Ygcoaj
open Go.RowKit

theorem sx_next {w W W' A : World} {b E M m : Nat} {x0 x1 x2 x3 x4 x5 : Value} (h : (W.cell? ⟨b, 0, none⟩ = some (.int .u8 (E : Int)) ∧ W.cell? ⟨b, 1, none⟩ = some (.int .u8 (M : Int)) ∧ b < W.heap.size ∧ Below w.heap.size w W) ∧ (W.cell? ⟨m, 0, none⟩ = some x0 ∧ W.cell? ⟨m, 1, none⟩ = some x1 ∧ W.cell? ⟨m, 2, none⟩ = some x2 ∧ W.cell? ⟨m, 3, none⟩ = some x3 ∧ W.cell? ⟨m, 4, none⟩ = some x4 ∧ W.cell? ⟨m, 5, none⟩ = some x5 ∧ (∀ o, W.frozen? ⟨m, o, none⟩ = false) ∧ m < W.heap.size) ∧ Kp A W) (hb : Below W.heap.size W W') : (W'.cell? ⟨b, 0, none⟩ = some (.int .u8 (E : Int)) ∧ W'.cell? ⟨b, 1, none⟩ = some (.int .u8 (M : Int)) ∧ b < W'.heap.size ∧ Below w.heap.size w W') ∧ (W'.cell? ⟨m, 0, none⟩ = some x0 ∧ W'.cell? ⟨m, 1, none⟩ = some x1 ∧ W'.cell? ⟨m, 2, none⟩ = some x2 ∧ W'.cell? ⟨m, 3, none⟩ = some x3 ∧ W'.cell? ⟨m, 4, none⟩ = some x4 ∧ W'.cell? ⟨m, 5, none⟩ = some x5 ∧ (∀ o, W'.frozen? ⟨m, o, none⟩ = false) ∧ m < W'.heap.size) ∧ Kp A W' := ⟨sf_next h.1 hb, bx6_next h.2.1 hb, h.2.2.trans (Kp.of hb)⟩
theorem sx_drew {w W A : World} {b E M m : Nat} {x0 x1 x2 x3 x4 x5 : Value} (h : (W.cell? ⟨b, 0, none⟩ = some (.int .u8 (E : Int)) ∧ W.cell? ⟨b, 1, none⟩ = some (.int .u8 (M : Int)) ∧ b < W.heap.size ∧ Below w.heap.size w W) ∧ (W.cell? ⟨m, 0, none⟩ = some x0 ∧ W.cell? ⟨m, 1, none⟩ = some x1 ∧ W.cell? ⟨m, 2, none⟩ = some x2 ∧ W.cell? ⟨m, 3, none⟩ = some x3 ∧ W.cell? ⟨m, 4, none⟩ = some x4 ∧ W.cell? ⟨m, 5, none⟩ = some x5 ∧ (∀ o, W.frozen? ⟨m, o, none⟩ = false) ∧ m < W.heap.size) ∧ Kp A W) : (W.drew.cell? ⟨b, 0, none⟩ = some (.int .u8 (E : Int)) ∧ W.drew.cell? ⟨b, 1, none⟩ = some (.int .u8 (M : Int)) ∧ b < W.drew.heap.size ∧ Below w.heap.size w W.drew) ∧ (W.drew.cell? ⟨m, 0, none⟩ = some x0 ∧ W.drew.cell? ⟨m, 1, none⟩ = some x1 ∧ W.drew.cell? ⟨m, 2, none⟩ = some x2 ∧ W.drew.cell? ⟨m, 3, none⟩ = some x3 ∧ W.drew.cell? ⟨m, 4, none⟩ = some x4 ∧ W.drew.cell? ⟨m, 5, none⟩ = some x5 ∧ (∀ o, W.drew.frozen? ⟨m, o, none⟩ = false) ∧ m < W.drew.heap.size) ∧ Kp A W.drew := ⟨sf_drew h.1, bx6_drew h.2.1, h.2.2.drew⟩
theorem sy_next {w W W' A : World} {b E M m : Nat} {x0 x1 x2 x3 x4 x5 : Value} {q : Nat} {y0 y1 : Value} (h : (W.cell? ⟨b, 0, none⟩ = some (.int .u8 (E : Int)) ∧ W.cell? ⟨b, 1, none⟩ = some (.int .u8 (M : Int)) ∧ b < W.heap.size ∧ Below w.heap.size w W) ∧ (W.cell? ⟨m, 0, none⟩ = some x0 ∧ W.cell? ⟨m, 1, none⟩ = some x1 ∧ W.cell? ⟨m, 2, none⟩ = some x2 ∧ W.cell? ⟨m, 3, none⟩ = some x3 ∧ W.cell? ⟨m, 4, none⟩ = some x4 ∧ W.cell? ⟨m, 5, none⟩ = some x5 ∧ (∀ o, W.frozen? ⟨m, o, none⟩ = false) ∧ m < W.heap.size) ∧ Kp A W ∧ (W.cell? ⟨q, 0, none⟩ = some y0 ∧ W.cell? ⟨q, 1, none⟩ = some y1 ∧ (∀ o, W.frozen? ⟨q, o, none⟩ = false) ∧ q < W.heap.size)) (hb : Below W.heap.size W W') : (W'.cell? ⟨b, 0, none⟩ = some (.int .u8 (E : Int)) ∧ W'.cell? ⟨b, 1, none⟩ = some (.int .u8 (M : Int)) ∧ b < W'.heap.size ∧ Below w.heap.size w W') ∧ (W'.cell? ⟨m, 0, none⟩ = some x0 ∧ W'.cell? ⟨m, 1, none⟩ = some x1 ∧ W'.cell? ⟨m, 2, none⟩ = some x2 ∧ W'.cell? ⟨m, 3, none⟩ = some x3 ∧ W'.cell? ⟨m, 4, none⟩ = some x4 ∧ W'.cell? ⟨m, 5, none⟩ = some x5 ∧ (∀ o, W'.frozen? ⟨m, o, none⟩ = false) ∧ m < W'.heap.size) ∧ Kp A W' ∧ (W'.cell? ⟨q, 0, none⟩ = some y0 ∧ W'.cell? ⟨q, 1, none⟩ = some y1 ∧ (∀ o, W'.frozen? ⟨q, o, none⟩ = false) ∧ q < W'.heap.size) := ⟨sf_next h.1 hb, bx6_next h.2.1 hb, h.2.2.1.trans (Kp.of hb), bx2_next h.2.2.2 hb⟩
theorem sy_drew {w W A : World} {b E M m : Nat} {x0 x1 x2 x3 x4 x5 : Value} {q : Nat} {y0 y1 : Value} (h : (W.cell? ⟨b, 0, none⟩ = some (.int .u8 (E : Int)) ∧ W.cell? ⟨b, 1, none⟩ = some (.int .u8 (M : Int)) ∧ b < W.heap.size ∧ Below w.heap.size w W) ∧ (W.cell? ⟨m, 0, none⟩ = some x0 ∧ W.cell? ⟨m, 1, none⟩ = some x1 ∧ W.cell? ⟨m, 2, none⟩ = some x2 ∧ W.cell? ⟨m, 3, none⟩ = some x3 ∧ W.cell? ⟨m, 4, none⟩ = some x4 ∧ W.cell? ⟨m, 5, none⟩ = some x5 ∧ (∀ o, W.frozen? ⟨m, o, none⟩ = false) ∧ m < W.heap.size) ∧ Kp A W ∧ (W.cell? ⟨q, 0, none⟩ = some y0 ∧ W.cell? ⟨q, 1, none⟩ = some y1 ∧ (∀ o, W.frozen? ⟨q, o, none⟩ = false) ∧ q < W.heap.size)) : (W.drew.cell? ⟨b, 0, none⟩ = some (.int .u8 (E : Int)) ∧ W.drew.cell? ⟨b, 1, none⟩ = some (.int .u8 (M : Int)) ∧ b < W.drew.heap.size ∧ Below w.heap.size w W.drew) ∧ (W.drew.cell? ⟨m, 0, none⟩ = some x0 ∧ W.drew.cell? ⟨m, 1, none⟩ = some x1 ∧ W.drew.cell? ⟨m, 2, none⟩ = some x2 ∧ W.drew.cell? ⟨m, 3, none⟩ = some x3 ∧ W.drew.cell? ⟨m, 4, none⟩ = some x4 ∧ W.drew.cell? ⟨m, 5, none⟩ = some x5 ∧ (∀ o, W.drew.frozen? ⟨m, o, none⟩ = false) ∧ m < W.drew.heap.size) ∧ Kp A W.drew ∧ (W.drew.cell? ⟨q, 0, none⟩ = some y0 ∧ W.drew.cell? ⟨q, 1, none⟩ = some y1 ∧ (∀ o, W.drew.frozen? ⟨q, o, none⟩ = false) ∧ q < W.drew.heap.size) := ⟨sf_drew h.1, bx6_drew h.2.1, h.2.2.1.drew, bx2_drew h.2.2.2⟩
theorem sy_made {w W A : World} {b E M m : Nat} {x0 x1 x2 x3 x4 x5 : Value} (t : Nat) (h : (W.cell? ⟨b, 0, none⟩ = some (.int .u8 (E : Int)) ∧ W.cell? ⟨b, 1, none⟩ = some (.int .u8 (M : Int)) ∧ b < W.heap.size ∧ Below w.heap.size w W) ∧ (W.cell? ⟨m, 0, none⟩ = some x0 ∧ W.cell? ⟨m, 1, none⟩ = some x1 ∧ W.cell? ⟨m, 2, none⟩ = some x2 ∧ W.cell? ⟨m, 3, none⟩ = some x3 ∧ W.cell? ⟨m, 4, none⟩ = some x4 ∧ W.cell? ⟨m, 5, none⟩ = some x5 ∧ (∀ o, W.frozen? ⟨m, o, none⟩ = false) ∧ m < W.heap.size) ∧ Kp A W) (y0 y1 : Value) : ((W.alloc (.cells #[y0, y1] t)).cell? ⟨b, 0, none⟩ = some (.int .u8 (E : Int)) ∧ (W.alloc (.cells #[y0, y1] t)).cell? ⟨b, 1, none⟩ = some (.int .u8 (M : Int)) ∧ b < (W.alloc (.cells #[y0, y1] t)).heap.size ∧ Below w.heap.size w (W.alloc (.cells #[y0, y1] t))) ∧ ((W.alloc (.cells #[y0, y1] t)).cell? ⟨m, 0, none⟩ = some x0 ∧ (W.alloc (.cells #[y0, y1] t)).cell? ⟨m, 1, none⟩ = some x1 ∧ (W.alloc (.cells #[y0, y1] t)).cell? ⟨m, 2, none⟩ = some x2 ∧ (W.alloc (.cells #[y0, y1] t)).cell? ⟨m, 3, none⟩ = some x3 ∧ (W.alloc (.cells #[y0, y1] t)).cell? ⟨m, 4, none⟩ = some x4 ∧ (W.alloc (.cells #[y0, y1] t)).cell? ⟨m, 5, none⟩ = some x5 ∧ (∀ o, (W.alloc (.cells #[y0, y1] t)).frozen? ⟨m, o, none⟩ = false) ∧ m < (W.alloc (.cells #[y0, y1] t)).heap.size) ∧ Kp (W.alloc (.cells #[y0, y1] t)) (W.alloc (.cells #[y0, y1] t)) ∧ ((W.alloc (.cells #[y0, y1] t)).cell? ⟨W.heap.size, 0, none⟩ = some y0 ∧ (W.alloc (.cells #[y0, y1] t)).cell? ⟨W.heap.size, 1, none⟩ = some y1 ∧ (∀ o, (W.alloc (.cells #[y0, y1] t)).frozen? ⟨W.heap.size, o, none⟩ = false) ∧ W.heap.size < (W.alloc (.cells #[y0, y1] t)).heap.size) :=
  ⟨sf_alloc h.1 _, bx6_alloc h.2.1 _, Kp.refl _, bx2_made W (m := W.heap.size) y0 y1 t rfl⟩
theorem sy_base {w W A : World} {b E M m : Nat} {x0 x1 x2 x3 x4 x5 : Value} {q : Nat} {y0 y1 : Value} (h : (W.cell? ⟨b, 0, none⟩ = some (.int .u8 (E : Int)) ∧ W.cell? ⟨b, 1, none⟩ = some (.int .u8 (M : Int)) ∧ b < W.heap.size ∧ Below w.heap.size w W) ∧ (W.cell? ⟨m, 0, none⟩ = some x0 ∧ W.cell? ⟨m, 1, none⟩ = some x1 ∧ W.cell? ⟨m, 2, none⟩ = some x2 ∧ W.cell? ⟨m, 3, none⟩ = some x3 ∧ W.cell? ⟨m, 4, none⟩ = some x4 ∧ W.cell? ⟨m, 5, none⟩ = some x5 ∧ (∀ o, W.frozen? ⟨m, o, none⟩ = false) ∧ m < W.heap.size) ∧ Kp A W ∧ (W.cell? ⟨q, 0, none⟩ = some y0 ∧ W.cell? ⟨q, 1, none⟩ = some y1 ∧ (∀ o, W.frozen? ⟨q, o, none⟩ = false) ∧ q < W.heap.size)) : (W.cell? ⟨b, 0, none⟩ = some (.int .u8 (E : Int)) ∧ W.cell? ⟨b, 1, none⟩ = some (.int .u8 (M : Int)) ∧ b < W.heap.size ∧ Below w.heap.size w W) ∧ (W.cell? ⟨m, 0, none⟩ = some x0 ∧ W.cell? ⟨m, 1, none⟩ = some x1 ∧ W.cell? ⟨m, 2, none⟩ = some x2 ∧ W.cell? ⟨m, 3, none⟩ = some x3 ∧ W.cell? ⟨m, 4, none⟩ = some x4 ∧ W.cell? ⟨m, 5, none⟩ = some x5 ∧ (∀ o, W.frozen? ⟨m, o, none⟩ = false) ∧ m < W.heap.size) ∧ Kp W W ∧ (W.cell? ⟨q, 0, none⟩ = some y0 ∧ W.cell? ⟨q, 1, none⟩ = some y1 ∧ (∀ o, W.frozen? ⟨q, o, none⟩ = false) ∧ q < W.heap.size) := ⟨h.1, h.2.1, Kp.refl _, h.2.2.2⟩
theorem sy_alloc {w W A : World} {b E M m : Nat} {x0 x1 x2 x3 x4 x5 : Value} {q : Nat} {y0 y1 : Value} (h : (W.cell? ⟨b, 0, none⟩ = some (.int .u8 (E : Int)) ∧ W.cell? ⟨b, 1, none⟩ = some (.int .u8 (M : Int)) ∧ b < W.heap.size ∧ Below w.heap.size w W) ∧ (W.cell? ⟨m, 0, none⟩ = some x0 ∧ W.cell? ⟨m, 1, none⟩ = some x1 ∧ W.cell? ⟨m, 2, none⟩ = some x2 ∧ W.cell? ⟨m, 3, none⟩ = some x3 ∧ W.cell? ⟨m, 4, none⟩ = some x4 ∧ W.cell? ⟨m, 5, none⟩ = some x5 ∧ (∀ o, W.frozen? ⟨m, o, none⟩ = false) ∧ m < W.heap.size) ∧ Kp A W ∧ (W.cell? ⟨q, 0, none⟩ = some y0 ∧ W.cell? ⟨q, 1, none⟩ = some y1 ∧ (∀ o, W.frozen? ⟨q, o, none⟩ = false) ∧ q < W.heap.size)) (ob : Obj) : ((W.alloc ob).cell? ⟨b, 0, none⟩ = some (.int .u8 (E : Int)) ∧ (W.alloc ob).cell? ⟨b, 1, none⟩ = some (.int .u8 (M : Int)) ∧ b < (W.alloc ob).heap.size ∧ Below w.heap.size w (W.alloc ob)) ∧ ((W.alloc ob).cell? ⟨m, 0, none⟩ = some x0 ∧ (W.alloc ob).cell? ⟨m, 1, none⟩ = some x1 ∧ (W.alloc ob).cell? ⟨m, 2, none⟩ = some x2 ∧ (W.alloc ob).cell? ⟨m, 3, none⟩ = some x3 ∧ (W.alloc ob).cell? ⟨m, 4, none⟩ = some x4 ∧ (W.alloc ob).cell? ⟨m, 5, none⟩ = some x5 ∧ (∀ o, (W.alloc ob).frozen? ⟨m, o, none⟩ = false) ∧ m < (W.alloc ob).heap.size) ∧ Kp A (W.alloc ob) ∧ ((W.alloc ob).cell? ⟨q, 0, none⟩ = some y0 ∧ (W.alloc ob).cell? ⟨q, 1, none⟩ = some y1 ∧ (∀ o, (W.alloc ob).frozen? ⟨q, o, none⟩ = false) ∧ q < (W.alloc ob).heap.size) := sy_next h ((Below.refl _ _).alloc (Nat.le_refl _) ob)
theorem sx_made {w W : World} {b E M : Nat} (t : Nat) (h : (W.cell? ⟨b, 0, none⟩ = some (.int .u8 (E : Int)) ∧ W.cell? ⟨b, 1, none⟩ = some (.int .u8 (M : Int)) ∧ b < W.heap.size ∧ Below w.heap.size w W)) (x0 x1 x2 x3 x4 x5 : Value) : ((W.alloc (.cells #[x0, x1, x2, x3, x4, x5] t)).cell? ⟨b, 0, none⟩ = some (.int .u8 (E : Int)) ∧ (W.alloc (.cells #[x0, x1, x2, x3, x4, x5] t)).cell? ⟨b, 1, none⟩ = some (.int .u8 (M : Int)) ∧ b < (W.alloc (.cells #[x0, x1, x2, x3, x4, x5] t)).heap.size ∧ Below w.heap.size w (W.alloc (.cells #[x0, x1, x2, x3, x4, x5] t))) ∧ ((W.alloc (.cells #[x0, x1, x2, x3, x4, x5] t)).cell? ⟨W.heap.size, 0, none⟩ = some x0 ∧ (W.alloc (.cells #[x0, x1, x2, x3, x4, x5] t)).cell? ⟨W.heap.size, 1, none⟩ = some x1 ∧ (W.alloc (.cells #[x0, x1, x2, x3, x4, x5] t)).cell? ⟨W.heap.size, 2, none⟩ = some x2 ∧ (W.alloc (.cells #[x0, x1, x2, x3, x4, x5] t)).cell? ⟨W.heap.size, 3, none⟩ = some x3 ∧ (W.alloc (.cells #[x0, x1, x2, x3, x4, x5] t)).cell? ⟨W.heap.size, 4, none⟩ = some x4 ∧ (W.alloc (.cells #[x0, x1, x2, x3, x4, x5] t)).cell? ⟨W.heap.size, 5, none⟩ = some x5 ∧ (∀ o, (W.alloc (.cells #[x0, x1, x2, x3, x4, x5] t)).frozen? ⟨W.heap.size, o, none⟩ = false) ∧ W.heap.size < (W.alloc (.cells #[x0, x1, x2, x3, x4, x5] t)).heap.size) ∧ Kp (W.alloc (.cells #[x0, x1, x2, x3, x4, x5] t)) (W.alloc (.cells #[x0, x1, x2, x3, x4, x5] t)) := ⟨sf_alloc h _, bx6_made W (m := W.heap.size) x0 x1 x2 x3 x4 x5 t rfl, Kp.refl _⟩
theorem sqrtX_not (E M : Nat) (h : okB E M = false) (mo a : Nat) (w : World) :
    Calls Oajg.prog 102 #[.agg #[.int .u8 (E : Int), .int .u8 (M : Int)], .int .u8 (mo : Int), .int .u64 (a : Int)] w fun e w' => e = .returned (.tuple #[.int .u64 0, .int .u8 0]) ∧ Below w.heap.size w w' := by
  have hF := sf_box w E M
  have HO : Hid (∀ w, Calls Oajg.prog 17 #[.agg #[.int .u8 (E : Int), .int .u8 (M : Int)]] w fun e w' => e = .returned (.bool false) ∧ Below w.heap.size w w') := ok_not h
  clear h
  go_enter Oajg.func102, Oajg.ntmps102
  go_wp2_with fail
  refine Calls.mono (HO.out _) ?_
  rintro _ w1 ⟨rfl, hb⟩
  replace hF := sf_next hF hb
  clear hb
  go_wp2_with fail
  go_ret2
  exact ⟨rfl, hF.2.2.2⟩

set_option maxRecDepth 100000 in
set_option maxHeartbeats 8000000 in
theorem sqrtFlagsX_ok (E M : Nat) (h : FOk E M) (mo a F : Nat) (ha : a < 18446744073709551616) (HLX : lbOk E M a = true → fNeg E M a = false → ∀ n sm tiny, IsRoot (sqNum E M a (sqJ E M a) / sqDen E M a (sqJ E M a)) n → pkN E M mo false (sqE E M a - (1 - (biasN E : Int))).toNat (raN mo n (sqNum E M a (sqJ E M a)) (sqDen E M a (sqJ E M a))) sm tiny = F) (w : World) :
    Calls Oajg.prog 102 #[.agg #[.int .u8 (E : Int), .int .u8 (M : Int)], .int .u8 (mo : Int), .int .u64 (a : Int)] w fun e w' => ∃ fl, e = .returned (.tuple #[.int .u64 (sqN E M a F : Nat), .int .u8 fl]) ∧ Below w.heap.size w w' := by
  have hF := sf_box w E M
  have HO : Hid (∀ w, Calls Oajg.prog 17 #[.agg #[.int .u8 (E : Int), .int .u8 (M : Int)]] w fun e w' => e = .returned (.bool true) ∧ Below w.heap.size w w') := ok_yes h
  have HNA : Hid (∀ w, Calls Oajg.prog 64 #[.agg #[.int .u8 (E : Int), .int .u8 (M : Int)]] w fun e w' => e = .returned (.int .u64 (nanN E M : Nat)) ∧ Below w.heap.size w w') := nan_ok E M h
  have HHE : Hid (∀ w, Calls Oajg.prog 65 #[.agg #[.int .u8 (E : Int), .int .u8 (M : Int)], .int .u64 (a : Int), .int .u64 (a : Int)] w fun e w' => e = .returned (.int .u8 (hdI E M a)) ∧ Below w.heap.size w w') := heardX_ok E M h a a ha ha
  have HUP : Hid (∀ w, Calls Oajg.prog 63 #[.agg #[.int .u8 (E : Int), .int .u8 (M : Int)], .int .u64 (a : Int)] w fun e w' => ∃ a1 k1 c1 a2 k2 c2, e = .returned (.agg #[.int .u64 ((a % 2 ^ (E + M + 1) : Nat) : Int), .bool (fNeg E M a), .int .i8 (upC E M a), .bool (vN E M a), .slice a1 k1 c1, .slice a2 k2 c2]) ∧ NatIs 2050 w' (.slice a1 k1 c1) (vNum E M a) ∧ NatIs 2050 w' (.slice a2 k2 c2) (vDen E M a) ∧ Below w.heap.size w w') := opened E M h a ha
  by_cases c4 : upC E M a = 4
  · have HRN : Hid (sqN E M a F = nanN E M) := by show _ = _; unfold sqN; rw [if_pos c4]
    clear h HLX
    generalize hdI E M a = HD at *
    generalize nanN E M = NA at *
    generalize vNum E M a = NUM at *
    generalize vDen E M a = DEN at *
    generalize sqN E M a F = RN at *
    generalize upC E M a = C at *
    generalize vN E M a = VN at *
    generalize (a % 2 ^ (E + M + 1)) = XX at *
    generalize fNeg E M a = NG at *
    have j4 : (C == 4) = true := by simp [c4]
    clear c4
    go_enter Oajg.func102, Oajg.ntmps102
    go_wp2_with fail
    refine Calls.mono (HO.out _) ?_
    rintro _ w1 ⟨rfl, hb⟩
    replace hF := sf_next hF hb
    clear hb
    go_wp2_with fail
    refine Calls.mono (HUP.out _) ?_
    rintro _ w3 ⟨a1, k1, c1, a2, k2, c2, rfl, hN1, hN2, hb⟩
    replace hF := sf_next hF hb
    have hG := sx_made 98 hF (.int .u64 (XX : Int)) (.bool NG) (.int .i8 C) (.bool VN) (.slice a1 k1 c1) (.slice a2 k2 c2)
    have HN1 : Hid (NatIs 2050 (w3.alloc (.cells #[.int .u64 (XX : Int), .bool NG, .int .i8 C, .bool VN, .slice a1 k1 c1, .slice a2 k2 c2] 98)) (.slice a1 k1 c1) NUM) := hN1.kept ((Below.refl _ _).alloc (Nat.le_refl _) _)
    have HN2 : Hid (NatIs 2050 (w3.alloc (.cells #[.int .u64 (XX : Int), .bool NG, .int .i8 C, .bool VN, .slice a1 k1 c1, .slice a2 k2 c2] 98)) (.slice a2 k2 c2) DEN) := hN2.kept ((Below.refl _ _).alloc (Nat.le_refl _) _)
    clear hb hF hN1 hN2
    go_wp2_with fail
    go_region_held3 (fun W => (W.cell? ⟨w.heap.size, 0, none⟩ = some (.int .u8 (E : Int)) ∧ W.cell? ⟨w.heap.size, 1, none⟩ = some (.int .u8 (M : Int)) ∧ w.heap.size < W.heap.size ∧ Below w.heap.size w W) ∧ (W.cell? ⟨w3.heap.size, 0, none⟩ = some (.int .u64 (XX : Int)) ∧ W.cell? ⟨w3.heap.size, 1, none⟩ = some (.bool NG) ∧ W.cell? ⟨w3.heap.size, 2, none⟩ = some (.int .i8 C) ∧ W.cell? ⟨w3.heap.size, 3, none⟩ = some (.bool VN) ∧ W.cell? ⟨w3.heap.size, 4, none⟩ = some (.slice a1 k1 c1) ∧ W.cell? ⟨w3.heap.size, 5, none⟩ = some (.slice a2 k2 c2) ∧ (∀ o, W.frozen? ⟨w3.heap.size, o, none⟩ = false) ∧ w3.heap.size < W.heap.size) ∧ Kp (w3.alloc (.cells #[.int .u64 (XX : Int), .bool NG, .int .i8 C, .bool VN, .slice a1 k1 c1, .slice a2 k2 c2] 98)) W)
      ((repeat' (first | with_reducible assumption | with_reducible refine sx_drew ?_)))
      ((first | (go_at_call 64; refine Calls.mono (HNA.out _) ?_; rintro _ w4 ⟨rfl, hb⟩; have hG4 := sx_next (by with_reducible assumption) hb; clear hb) | (go_at_call 65; refine Calls.mono (HHE.out _) ?_; rintro _ w5 ⟨rfl, hb⟩; have hG5 := sx_next (by with_reducible assumption) hb; clear hb)))
    go_wp2_with fail
    go_ret2
    exact ⟨_, by rw [HRN.out]; rfl, by first | exact hG5.1.2.2.2 | exact hG4.1.2.2.2⟩
  by_cases c0 : upC E M a = 0
  · have HRN : Hid (sqN E M a F = a % 2 ^ (E + M + 1)) := by show _ = _; unfold sqN; rw [if_neg c4, if_pos c0, bits_zero h c0]
    clear h HLX HNA HHE
    generalize hdI E M a = HD at *
    generalize nanN E M = NA at *
    generalize vNum E M a = NUM at *
    generalize vDen E M a = DEN at *
    generalize sqN E M a F = RN at *
    generalize upC E M a = C at *
    generalize vN E M a = VN at *
    generalize (a % 2 ^ (E + M + 1)) = XX at *
    generalize fNeg E M a = NG at *
    have j4 : (C == 4) = false := by simp [c4]
    have j0 : (C == 0) = true := by simp [c0]
    clear c4 c0
    go_enter Oajg.func102, Oajg.ntmps102
    go_wp2_with fail
    refine Calls.mono (HO.out _) ?_
    rintro _ w1 ⟨rfl, hb⟩
    replace hF := sf_next hF hb
    clear hb
    go_wp2_with fail
    refine Calls.mono (HUP.out _) ?_
    rintro _ w3 ⟨a1, k1, c1, a2, k2, c2, rfl, hN1, hN2, hb⟩
    replace hF := sf_next hF hb
    have hG := sx_made 98 hF (.int .u64 (XX : Int)) (.bool NG) (.int .i8 C) (.bool VN) (.slice a1 k1 c1) (.slice a2 k2 c2)
    have HN1 : Hid (NatIs 2050 (w3.alloc (.cells #[.int .u64 (XX : Int), .bool NG, .int .i8 C, .bool VN, .slice a1 k1 c1, .slice a2 k2 c2] 98)) (.slice a1 k1 c1) NUM) := hN1.kept ((Below.refl _ _).alloc (Nat.le_refl _) _)
    have HN2 : Hid (NatIs 2050 (w3.alloc (.cells #[.int .u64 (XX : Int), .bool NG, .int .i8 C, .bool VN, .slice a1 k1 c1, .slice a2 k2 c2] 98)) (.slice a2 k2 c2) DEN) := hN2.kept ((Below.refl _ _).alloc (Nat.le_refl _) _)
    clear hb hF hN1 hN2
    go_wp2_with fail
    go_ret2
    exact ⟨_, by rw [HRN.out]; rfl, hG.1.2.2.2⟩
  by_cases cn : fNeg E M a = true
  · have HRN : Hid (sqN E M a F = nanN E M) := by show _ = _; unfold sqN; rw [if_neg c4, if_neg c0, if_pos cn]
    rw [cn] at HUP
    clear h HLX HHE cn
    generalize hdI E M a = HD at *
    generalize nanN E M = NA at *
    generalize vNum E M a = NUM at *
    generalize vDen E M a = DEN at *
    generalize sqN E M a F = RN at *
    generalize upC E M a = C at *
    generalize vN E M a = VN at *
    generalize (a % 2 ^ (E + M + 1)) = XX at *
    have j4 : (C == 4) = false := by simp [c4]
    have j0 : (C == 0) = false := by simp [c0]
    clear c4 c0
    go_enter Oajg.func102, Oajg.ntmps102
    go_wp2_with fail
    refine Calls.mono (HO.out _) ?_
    rintro _ w1 ⟨rfl, hb⟩
    replace hF := sf_next hF hb
    clear hb
    go_wp2_with fail
    refine Calls.mono (HUP.out _) ?_
    rintro _ w3 ⟨a1, k1, c1, a2, k2, c2, rfl, hN1, hN2, hb⟩
    replace hF := sf_next hF hb
    have hG := sx_made 98 hF (.int .u64 (XX : Int)) (.bool true) (.int .i8 C) (.bool VN) (.slice a1 k1 c1) (.slice a2 k2 c2)
    have HN1 : Hid (NatIs 2050 (w3.alloc (.cells #[.int .u64 (XX : Int), .bool true, .int .i8 C, .bool VN, .slice a1 k1 c1, .slice a2 k2 c2] 98)) (.slice a1 k1 c1) NUM) := hN1.kept ((Below.refl _ _).alloc (Nat.le_refl _) _)
    have HN2 : Hid (NatIs 2050 (w3.alloc (.cells #[.int .u64 (XX : Int), .bool true, .int .i8 C, .bool VN, .slice a1 k1 c1, .slice a2 k2 c2] 98)) (.slice a2 k2 c2) DEN) := hN2.kept ((Below.refl _ _).alloc (Nat.le_refl _) _)
    clear hb hF hN1 hN2
    go_wp2_with fail
    refine Calls.mono (HNA.out _) ?_
    rintro _ w4 ⟨rfl, hb⟩
    have hG4 := sx_next hG hb
    clear hb
    go_wp2_with fail
    go_ret2
    exact ⟨_, by rw [HRN.out]; rfl, hG4.1.2.2.2⟩
  replace cn : fNeg E M a = false := by simpa using cn
  by_cases c3 : upC E M a = 3
  · have HRN : Hid (sqN E M a F = a % 2 ^ (E + M + 1)) := by show _ = _; unfold sqN; rw [if_neg c4, if_neg c0, cn, if_neg (by decide), if_pos c3, bits_inf h c3, cn]
    rw [cn] at HUP
    clear h HLX HHE HNA cn
    generalize hdI E M a = HD at *
    generalize nanN E M = NA at *
    generalize vNum E M a = NUM at *
    generalize vDen E M a = DEN at *
    generalize sqN E M a F = RN at *
    generalize upC E M a = C at *
    generalize vN E M a = VN at *
    generalize (a % 2 ^ (E + M + 1)) = XX at *
    have j4 : (C == 4) = false := by simp [c4]
    have j0 : (C == 0) = false := by simp [c0]
    have j3 : (C == 3) = true := by simp [c3]
    clear c4 c0 c3
    go_enter Oajg.func102, Oajg.ntmps102
    go_wp2_with fail
    refine Calls.mono (HO.out _) ?_
    rintro _ w1 ⟨rfl, hb⟩
    replace hF := sf_next hF hb
    clear hb
    go_wp2_with fail
    refine Calls.mono (HUP.out _) ?_
    rintro _ w3 ⟨a1, k1, c1, a2, k2, c2, rfl, hN1, hN2, hb⟩
    replace hF := sf_next hF hb
    have hG := sx_made 98 hF (.int .u64 (XX : Int)) (.bool false) (.int .i8 C) (.bool VN) (.slice a1 k1 c1) (.slice a2 k2 c2)
    have HN1 : Hid (NatIs 2050 (w3.alloc (.cells #[.int .u64 (XX : Int), .bool false, .int .i8 C, .bool VN, .slice a1 k1 c1, .slice a2 k2 c2] 98)) (.slice a1 k1 c1) NUM) := hN1.kept ((Below.refl _ _).alloc (Nat.le_refl _) _)
    have HN2 : Hid (NatIs 2050 (w3.alloc (.cells #[.int .u64 (XX : Int), .bool false, .int .i8 C, .bool VN, .slice a1 k1 c1, .slice a2 k2 c2] 98)) (.slice a2 k2 c2) DEN) := hN2.kept ((Below.refl _ _).alloc (Nat.le_refl _) _)
    clear hb hF hN1 hN2
    go_wp2_with fail
    go_ret2
    exact ⟨_, by rw [HRN.out]; rfl, hG.1.2.2.2⟩
  have ho : lbOk E M a = true := by
    unfold lbOk
    have hu : upC E M a = 0 ∨ upC E M a = 1 ∨ upC E M a = 2 ∨ upC E M a = 3 ∨ upC E M a = 4 := by
      unfold upC
      split
      · split <;> omega
      · split
        · split <;> omega
        · omega
    simp only [Bool.or_eq_true, decide_eq_true_eq]
    omega
  have HRN : Hid (sqN E M a F = F) := by show _ = _; unfold sqN; rw [if_neg c4, if_neg c0, cn, if_neg (by decide), if_neg c3]
  rw [cn] at HUP
  have hLG := sq_lg h ho
  obtain ⟨hx1, hx2⟩ := v_expS h ho
  have hbi := biasN_le h.e11
  have hbi1 := biasN_pos h.e2
  have hM52 := h.m52
  have hSM := sq_small h ho
  have hDE0 : sqDen E M a (sqJ E M a) ≠ 0 := sqDen_ne _ _ _ _
  obtain ⟨LL, HLL⟩ : ∃ LL, Hid (upE E M a + (M : Int) = LL) := ⟨_, rfl⟩
  rw [HLL.out] at hLG hx1 hx2
  have HE : Hid (∀ w, Calls Oajg.prog 120 #[.agg #[.int .u8 (E : Int), .int .u8 (M : Int)]] w fun e w' => e = .returned (.int .i64 (1 - (biasN E : Int))) ∧ Below w.heap.size w w') := emin_ok E M h
  have HX : Hid (∀ w, Calls Oajg.prog 121 #[.agg #[.int .u8 (E : Int), .int .u8 (M : Int)]] w fun e w' => e = .returned (.int .i64 (biasN E : Nat)) ∧ Below w.heap.size w w') := emax_ok E M h
  obtain ⟨R, HRR⟩ : ∃ R, Hid (LL / 2 = R) := ⟨_, rfl⟩
  have hR := HRR.out
  have eR : sqR E M a = R := by unfold sqR; rw [HLL.out, hR]
  have hM53 : 2 ^ (M + 1) ≤ 2 ^ 53 := Nat.pow_le_pow_right (by decide) (by omega)
  have e2E : 2 ^ E = 2 * (biasN E + 1) := bias_pow h.e2
  obtain ⟨D, hD⟩ : ∃ D : Nat, D = (sqE E M a - (1 - (biasN E : Int))).toNat := ⟨_, rfl⟩
  obtain ⟨e, he⟩ : ∃ e, e = sqE E M a := ⟨_, rfl⟩
  have he2 : e = max R (1 - (biasN E : Int)) := by rw [he]; unfold sqE; rw [eR]
  rw [← he] at hD
  have kD : 1 - (biasN E : Int) + (D : Int) = e := by omega
  have HPK : Hid (∀ w n hf sm tiny, n ≤ 2 ^ (M + 1) → Calls Oajg.prog 124 #[.agg #[.int .u8 (E : Int), .int .u8 (M : Int)], .int .u8 (mo : Int), .bool false, .int .i64 e, .int .u64 (n : Nat), .agg #[.int .i8 hf, .bool sm], .bool tiny] w fun e w' => e = .returned (.tuple #[.int .u64 (pkN E M mo false D n sm tiny : Nat), .int .u8 (pkF E M D n sm tiny : Nat)]) ∧ Below w.heap.size w w') := fun w n hf sm tiny hn => by
    have := pack_ok E M h mo false D n hf sm tiny (by omega) hn w
    rw [kD] at this
    exact this
  have HFF := HLX ho cn
  rw [← he, ← hD] at HFF
  have hJ : sqJ E M a = 2 * ((M : Int) - e) := by rw [he]; rfl
  obtain ⟨NU, HNU⟩ : ∃ NU, NU = sqNum E M a (sqJ E M a) := ⟨_, rfl⟩
  obtain ⟨DE, HDE⟩ : ∃ DE, DE = sqDen E M a (sqJ E M a) := ⟨_, rfl⟩
  have HRA : Hid (∀ W b1 l1 e1 b2 l2 e2, NatIs 2050 W (.slice b1 l1 e1) (vNum E M a) → NatIs 2050 W (.slice b2 l2 e2) (vDen E M a) → Calls Oajg.prog 154 #[.agg #[.int .u8 (E : Int), .int .u8 (M : Int)], .int .u8 (mo : Int), .agg #[.bool (vN E M a), .slice b1 l1 e1, .slice b2 l2 e2], .int .i64 e] W fun x w' => ∃ b l c n, IsRoot (NU / DE) n ∧ x = .returned (.tuple #[.slice b l c, .agg #[.int .i8 (raHf n NU DE), .bool (raSm n NU DE)]]) ∧ NatIs 20000 w' (.slice b l c) (raN mo n NU DE) ∧ Below W.heap.size W w') := fun W b1 l1 e1 b2 l2 e2 q1 q2 =>
    rootAt_ok E M mo 2050 _ _ NU DE _ b1 b2 l1 e1 l2 e2 e (sqJ E M a) hM52 (by omega) (by omega) hJ (by rw [HNU]; rfl) (by rw [HDE]; rfl) W q1 q2 (by decide) (by rw [HDE]; exact hDE0)
  have HRB : Hid (∀ W b1 l1 e1 b2 l2 e2, NatIs 2050 W (.slice b1 l1 e1) (vNum E M a) → NatIs 2050 W (.slice b2 l2 e2) (vDen E M a) → Calls Oajg.prog 154 #[.agg #[.int .u8 (E : Int), .int .u8 (M : Int)], .int .u8 (mo : Int), .agg #[.bool (vN E M a), .slice b1 l1 e1, .slice b2 l2 e2], .int .i64 R] W fun x w' => ∃ b l c hf sm n, x = .returned (.tuple #[.slice b l c, .agg #[.int .i8 hf, .bool sm]]) ∧ NatIs 20000 w' (.slice b l c) n ∧ Below W.heap.size W w') := fun W b1 l1 e1 b2 l2 e2 q1 q2 =>
    Calls.mono (rootAt_ok E M mo 2050 _ _ (sqNum E M a (2 * ((M : Int) - R))) (sqDen E M a (2 * ((M : Int) - R))) _ b1 b2 l1 e1 l2 e2 R (2 * ((M : Int) - R)) hM52 (by omega) (by omega) rfl rfl rfl W q1 q2 (by decide) (sqDen_ne _ _ _ _)) (by
      rintro x w' ⟨b, l, c, n, _, rfl, h1, h2⟩
      exact ⟨_, _, _, _, _, _, rfl, h1, h2⟩)
  rw [← HNU, ← HDE] at HFF hSM
  have HFX : Hid (∀ n sm tiny, IsRoot (NU / DE) n → pkN E M mo false D (raN mo n NU DE) sm tiny = F ∧ raN mo n NU DE ≤ 2 ^ (M + 1)) := fun n sm tiny hn => ⟨HFF n sm tiny hn, by have := hSM n hn; unfold raN; split <;> omega⟩
  have HLGC : Hid (∀ W b1 l1 e1 b2 l2 e2, NatIs 2050 W (.slice b1 l1 e1) (vNum E M a) → NatIs 2050 W (.slice b2 l2 e2) (vDen E M a) → Calls Oajg.prog 69 #[.slice b1 l1 e1, .slice b2 l2 e2, .int .i64 (2 * (1 - (biasN E : Int)) - 200), .int .i64 (2 * (biasN E : Int))] W fun e w' => e = .returned (.int .i64 LL) ∧ Below W.heap.size W w') := fun W b1 l1 e1 b2 l2 e2 q1 q2 => by
    have := log2_ok 2050 _ _ b1 b2 l1 e1 l2 e2 (2 * (1 - (biasN E : Int)) - 200) (2 * (biasN E : Int)) W q1 q2 (by decide) (Or.inl (by omega))
    rw [hLG] at this
    exact this
  have hM64 : 2 ^ (M + 1) < 18446744073709551616 := by omega
  clear h HLX HHE HNA cn ho hLG hSM hDE0 HLL hD kD hJ HNU HDE HFF he eR e2E hM53
  generalize hdI E M a = HD at *
  generalize nanN E M = NA at *
  generalize vNum E M a = NUM at *
  generalize vDen E M a = DEN at *
  generalize sqN E M a F = RN at *
  generalize upC E M a = C at *
  generalize vN E M a = VN at *
  generalize (a % 2 ^ (E + M + 1)) = XX at *
  generalize biasN E = BI at *
  have j4 : (C == 4) = false := by simp [c4]
  have j0 : (C == 0) = false := by simp [c0]
  have j3 : (C == 3) = false := by simp [c3]
  clear c4 c0 c3
  have kS1 : LL / 2 ^ 1 = R := hR
  have kS2 : LL / (2 : Int) = R := hR
  have hcase : (¬ R < 1 - (BI : Int) ∧ R = e) ∨ (R = 1 - (BI : Int) - 1 ∧ e = 1 - (BI : Int)) ∨ (R < 1 - (BI : Int) - 1 ∧ e = 1 - (BI : Int)) := by omega
  clear he2 HRR
  rcases hcase with ⟨hc, rfl⟩ | ⟨hc, rfl⟩ | ⟨hc, rfl⟩
  · have jL : ¬ R < 1 - (BI : Int) := hc
    have jL2 : decide (R < 1 - (BI : Int)) = false := by rw [decide_eq_false_iff_not]; exact hc
    have jE : (R == 1 - (BI : Int) - 1) = false := by simp; omega
    go_enter Oajg.func102, Oajg.ntmps102
    go_wp2_with fail
    refine Calls.mono (HO.out _) ?_
    rintro _ w1 ⟨rfl, hb⟩
    replace hF := sf_next hF hb
    clear hb
    go_wp2_with fail
    refine Calls.mono (HUP.out _) ?_
    rintro _ w3 ⟨a1, k1, c1, a2, k2, c2, rfl, hN1, hN2, hb⟩
    replace hF := sf_next hF hb
    have hG := sx_made 98 hF (.int .u64 (XX : Int)) (.bool false) (.int .i8 C) (.bool VN) (.slice a1 k1 c1) (.slice a2 k2 c2)
    have HN1 : Hid (NatIs 2050 (w3.alloc (.cells #[.int .u64 (XX : Int), .bool false, .int .i8 C, .bool VN, .slice a1 k1 c1, .slice a2 k2 c2] 98)) (.slice a1 k1 c1) NUM) := hN1.kept ((Below.refl _ _).alloc (Nat.le_refl _) _)
    have HN2 : Hid (NatIs 2050 (w3.alloc (.cells #[.int .u64 (XX : Int), .bool false, .int .i8 C, .bool VN, .slice a1 k1 c1, .slice a2 k2 c2] 98)) (.slice a2 k2 c2) DEN) := hN2.kept ((Below.refl _ _).alloc (Nat.le_refl _) _)
    clear hb hF hN1 hN2
    have HLG2 : Hid (∀ W, ((W.cell? ⟨w.heap.size, 0, none⟩ = some (.int .u8 (E : Int)) ∧ W.cell? ⟨w.heap.size, 1, none⟩ = some (.int .u8 (M : Int)) ∧ w.heap.size < W.heap.size ∧ Below w.heap.size w W) ∧ (W.cell? ⟨w3.heap.size, 0, none⟩ = some (.int .u64 (XX : Int)) ∧ W.cell? ⟨w3.heap.size, 1, none⟩ = some (.bool false) ∧ W.cell? ⟨w3.heap.size, 2, none⟩ = some (.int .i8 C) ∧ W.cell? ⟨w3.heap.size, 3, none⟩ = some (.bool VN) ∧ W.cell? ⟨w3.heap.size, 4, none⟩ = some (.slice a1 k1 c1) ∧ W.cell? ⟨w3.heap.size, 5, none⟩ = some (.slice a2 k2 c2) ∧ (∀ o, W.frozen? ⟨w3.heap.size, o, none⟩ = false) ∧ w3.heap.size < W.heap.size) ∧ Kp (w3.alloc (.cells #[.int .u64 (XX : Int), .bool false, .int .i8 C, .bool VN, .slice a1 k1 c1, .slice a2 k2 c2] 98)) W) → Calls Oajg.prog 69 #[.slice a1 k1 c1, .slice a2 k2 c2, .int .i64 (2 * (1 - (BI : Int)) - 200), .int .i64 (2 * (BI : Int))] W fun e w' => e = .returned (.int .i64 LL) ∧ Below W.heap.size W w') := fun W hW => HLGC.out W _ _ _ _ _ _ (HN1.out.kp hW.2.2) (HN2.out.kp hW.2.2)
    have kW1 : IntKind.i64.wrap (2 * (1 - (BI : Int)) - 200) = 2 * (1 - (BI : Int)) - 200 := by rw [IntKind.wrap_i64]; omega
    have kW2 : IntKind.i64.wrap (2 * (1 - (BI : Int))) = 2 * (1 - (BI : Int)) := by rw [IntKind.wrap_i64]; omega
    have kW3 : IntKind.i64.wrap (2 * (BI : Int)) = 2 * (BI : Int) := by rw [IntKind.wrap_i64]; omega
    have kW4 : IntKind.i64.wrap R = R := by rw [IntKind.wrap_i64]; omega
    go_wp2_with fail
    go_region_held3 (fun W => (W.cell? ⟨w.heap.size, 0, none⟩ = some (.int .u8 (E : Int)) ∧ W.cell? ⟨w.heap.size, 1, none⟩ = some (.int .u8 (M : Int)) ∧ w.heap.size < W.heap.size ∧ Below w.heap.size w W) ∧ (W.cell? ⟨w3.heap.size, 0, none⟩ = some (.int .u64 (XX : Int)) ∧ W.cell? ⟨w3.heap.size, 1, none⟩ = some (.bool false) ∧ W.cell? ⟨w3.heap.size, 2, none⟩ = some (.int .i8 C) ∧ W.cell? ⟨w3.heap.size, 3, none⟩ = some (.bool VN) ∧ W.cell? ⟨w3.heap.size, 4, none⟩ = some (.slice a1 k1 c1) ∧ W.cell? ⟨w3.heap.size, 5, none⟩ = some (.slice a2 k2 c2) ∧ (∀ o, W.frozen? ⟨w3.heap.size, o, none⟩ = false) ∧ w3.heap.size < W.heap.size) ∧ Kp (w3.alloc (.cells #[.int .u64 (XX : Int), .bool false, .int .i8 C, .bool VN, .slice a1 k1 c1, .slice a2 k2 c2] 98)) W)
      ((repeat' (first | with_reducible assumption | with_reducible refine sx_drew ?_)))
      ((first | (go_at_call 120; refine Calls.mono (HE.out _) ?_; rintro _ w4 ⟨rfl, hb⟩; have hG4 := sx_next (by with_reducible assumption) hb; clear hb) | (go_at_call 121; refine Calls.mono (HX.out _) ?_; rintro _ w5 ⟨rfl, hb⟩; have hG5 := sx_next (by with_reducible assumption) hb; clear hb) | (go_at_call 69; (with_reducible refine Calls.mono (HLG2.out _ ?hh) ?_); (case hh => with_reducible assumption); rintro _ w6 ⟨rfl, hb⟩; have hG6 := sx_next (by with_reducible assumption) hb; clear hb)))
    clear hG hG4 hG5 HLG2 HLGC kW1 kW2 kW3
    go_wp2_with fail
    refine Calls.mono (HE.out _) ?_
    rintro _ w7 ⟨rfl, hb⟩
    have hG7 := sx_next hG6 hb
    clear hb hG6
    go_wp2_with fail
    refine Calls.mono (HRA.out _ _ _ _ _ _ _ (HN1.out.kp hG7.2.2) (HN2.out.kp hG7.2.2)) ?_
    rintro _ w8 ⟨b5, l5, e5, n, hroot, rfl, hM5, hb⟩
    have hG8 := sx_next hG7 hb
    obtain ⟨hFn1, hFn2⟩ : (∀ sm tiny, pkN E M mo false D (raN mo n NU DE) sm tiny = F) ∧ raN mo n NU DE ≤ 2 ^ (M + 1) := ⟨fun sm tiny => (HFX.out n sm tiny hroot).1, (HFX.out n true true hroot).2⟩
    obtain ⟨HF, HHF⟩ : ∃ HF, HF = raHf n NU DE := ⟨_, rfl⟩
    obtain ⟨SM, HSM⟩ : ∃ SM, SM = raSm n NU DE := ⟨_, rfl⟩
    obtain ⟨TOP, HTP0⟩ : ∃ TOP, TOP = raN mo n NU DE := ⟨_, rfl⟩
    rw [← HTP0] at hFn1 hFn2 hM5
    rw [← HHF, ← HSM]
    have hT64 : TOP < 18446744073709551616 := by omega
    have hG := sy_made 152 hG8 (.int .i8 HF) (.bool SM)
    have HTP : Hid (NatIs 20000 (w8.alloc (.cells #[.int .i8 HF, .bool SM] 152)) (.slice b5 l5 e5) TOP) := hM5.kept ((Below.refl _ _).alloc (Nat.le_refl _) _)
    have HKP : Hid (Kp (w3.alloc (.cells #[.int .u64 (XX : Int), .bool false, .int .i8 C, .bool VN, .slice a1 k1 c1, .slice a2 k2 c2] 98)) w8) := hG8.2.2
    have HPK2 : Hid (∀ w tiny, Calls Oajg.prog 124 #[.agg #[.int .u8 (E : Int), .int .u8 (M : Int)], .int .u8 (mo : Int), .bool false, .int .i64 R, .int .u64 (TOP : Int), .agg #[.int .i8 HF, .bool SM], .bool tiny] w fun e w' => ∃ fl, e = .returned (.tuple #[.int .u64 (F : Nat), .int .u8 fl]) ∧ Below w.heap.size w w') := fun w tiny => Calls.mono (HPK.out w TOP HF SM tiny hFn2) (by
      rintro x w' ⟨rfl, hb⟩
      rw [hFn1]
      exact ⟨_, rfl, hb⟩)
    clear hb hG7 hG8 hM5 HRA HFX hFn1 hFn2 HHF HSM HTP0 hroot HPK hM64
    go_wp2_with fail
    refine Calls.mono (HE.out _) ?_
    rintro _ w9 ⟨rfl, hb⟩
    have hG9 := sy_next hG hb
    clear hb
    go_wp2_with fail
    refine Calls.mono (HE.out _) ?_
    rintro _ w10 ⟨rfl, hb⟩
    have hG10 := sy_next hG9 hb
    clear hb hG9 hG
    have HTU : Hid (∀ W, ((W.cell? ⟨w.heap.size, 0, none⟩ = some (.int .u8 (E : Int)) ∧ W.cell? ⟨w.heap.size, 1, none⟩ = some (.int .u8 (M : Int)) ∧ w.heap.size < W.heap.size ∧ Below w.heap.size w W) ∧ (W.cell? ⟨w3.heap.size, 0, none⟩ = some (.int .u64 (XX : Int)) ∧ W.cell? ⟨w3.heap.size, 1, none⟩ = some (.bool false) ∧ W.cell? ⟨w3.heap.size, 2, none⟩ = some (.int .i8 C) ∧ W.cell? ⟨w3.heap.size, 3, none⟩ = some (.bool VN) ∧ W.cell? ⟨w3.heap.size, 4, none⟩ = some (.slice a1 k1 c1) ∧ W.cell? ⟨w3.heap.size, 5, none⟩ = some (.slice a2 k2 c2) ∧ (∀ o, W.frozen? ⟨w3.heap.size, o, none⟩ = false) ∧ w3.heap.size < W.heap.size) ∧ Kp (w8.alloc (.cells #[.int .i8 HF, .bool SM] 152)) W ∧ (W.cell? ⟨w8.heap.size, 0, none⟩ = some (.int .i8 HF) ∧ W.cell? ⟨w8.heap.size, 1, none⟩ = some (.bool SM) ∧ (∀ o, W.frozen? ⟨w8.heap.size, o, none⟩ = false) ∧ w8.heap.size < W.heap.size)) → Calls Oajg.prog 125 #[.slice b5 l5 e5] W fun e w' => e = .returned (.int .u64 (TOP : Int)) ∧ Below W.heap.size W w') := fun W hW => toU64_ok 20000 _ TOP W (HTP.out.kp hW.2.2.1) (by decide) hT64
    go_wp2_with fail
    go_region_held3 (fun W => (W.cell? ⟨w.heap.size, 0, none⟩ = some (.int .u8 (E : Int)) ∧ W.cell? ⟨w.heap.size, 1, none⟩ = some (.int .u8 (M : Int)) ∧ w.heap.size < W.heap.size ∧ Below w.heap.size w W) ∧ (W.cell? ⟨w3.heap.size, 0, none⟩ = some (.int .u64 (XX : Int)) ∧ W.cell? ⟨w3.heap.size, 1, none⟩ = some (.bool false) ∧ W.cell? ⟨w3.heap.size, 2, none⟩ = some (.int .i8 C) ∧ W.cell? ⟨w3.heap.size, 3, none⟩ = some (.bool VN) ∧ W.cell? ⟨w3.heap.size, 4, none⟩ = some (.slice a1 k1 c1) ∧ W.cell? ⟨w3.heap.size, 5, none⟩ = some (.slice a2 k2 c2) ∧ (∀ o, W.frozen? ⟨w3.heap.size, o, none⟩ = false) ∧ w3.heap.size < W.heap.size) ∧ Kp (w8.alloc (.cells #[.int .i8 HF, .bool SM] 152)) W ∧ (W.cell? ⟨w8.heap.size, 0, none⟩ = some (.int .i8 HF) ∧ W.cell? ⟨w8.heap.size, 1, none⟩ = some (.bool SM) ∧ (∀ o, W.frozen? ⟨w8.heap.size, o, none⟩ = false) ∧ w8.heap.size < W.heap.size))
      ((repeat' (first | with_reducible assumption | with_reducible refine sy_drew ?_)))
      ((first | (go_at_call 125; (with_reducible refine Calls.mono (HTU.out _ ?hh) ?_); (case hh => with_reducible assumption); rintro _ w12 ⟨rfl, hb⟩; have hG12 := sy_next (by with_reducible assumption) hb; clear hb) | (go_at_call 124; refine Calls.mono (HPK2.out _ _) ?_; rintro _ w13 ⟨fl, rfl, hb⟩; have hG13 := sy_next (by with_reducible assumption) hb; clear hb)))
    go_wp2_with fail
    go_ret2
    exact ⟨_, by rw [HRN.out]; rfl, hG13.1.2.2.2⟩
  · have jL : R < 1 - (BI : Int) := by omega
    have jE : (R == 1 - (BI : Int) - 1) = true := by simp [hc]
    clear hc
    go_enter Oajg.func102, Oajg.ntmps102
    go_wp2_with fail
    refine Calls.mono (HO.out _) ?_
    rintro _ w1 ⟨rfl, hb⟩
    replace hF := sf_next hF hb
    clear hb
    go_wp2_with fail
    refine Calls.mono (HUP.out _) ?_
    rintro _ w3 ⟨a1, k1, c1, a2, k2, c2, rfl, hN1, hN2, hb⟩
    replace hF := sf_next hF hb
    have hG := sx_made 98 hF (.int .u64 (XX : Int)) (.bool false) (.int .i8 C) (.bool VN) (.slice a1 k1 c1) (.slice a2 k2 c2)
    have HN1 : Hid (NatIs 2050 (w3.alloc (.cells #[.int .u64 (XX : Int), .bool false, .int .i8 C, .bool VN, .slice a1 k1 c1, .slice a2 k2 c2] 98)) (.slice a1 k1 c1) NUM) := hN1.kept ((Below.refl _ _).alloc (Nat.le_refl _) _)
    have HN2 : Hid (NatIs 2050 (w3.alloc (.cells #[.int .u64 (XX : Int), .bool false, .int .i8 C, .bool VN, .slice a1 k1 c1, .slice a2 k2 c2] 98)) (.slice a2 k2 c2) DEN) := hN2.kept ((Below.refl _ _).alloc (Nat.le_refl _) _)
    clear hb hF hN1 hN2
    have HLG2 : Hid (∀ W, ((W.cell? ⟨w.heap.size, 0, none⟩ = some (.int .u8 (E : Int)) ∧ W.cell? ⟨w.heap.size, 1, none⟩ = some (.int .u8 (M : Int)) ∧ w.heap.size < W.heap.size ∧ Below w.heap.size w W) ∧ (W.cell? ⟨w3.heap.size, 0, none⟩ = some (.int .u64 (XX : Int)) ∧ W.cell? ⟨w3.heap.size, 1, none⟩ = some (.bool false) ∧ W.cell? ⟨w3.heap.size, 2, none⟩ = some (.int .i8 C) ∧ W.cell? ⟨w3.heap.size, 3, none⟩ = some (.bool VN) ∧ W.cell? ⟨w3.heap.size, 4, none⟩ = some (.slice a1 k1 c1) ∧ W.cell? ⟨w3.heap.size, 5, none⟩ = some (.slice a2 k2 c2) ∧ (∀ o, W.frozen? ⟨w3.heap.size, o, none⟩ = false) ∧ w3.heap.size < W.heap.size) ∧ Kp (w3.alloc (.cells #[.int .u64 (XX : Int), .bool false, .int .i8 C, .bool VN, .slice a1 k1 c1, .slice a2 k2 c2] 98)) W) → Calls Oajg.prog 69 #[.slice a1 k1 c1, .slice a2 k2 c2, .int .i64 (2 * (1 - (BI : Int)) - 200), .int .i64 (2 * (BI : Int))] W fun e w' => e = .returned (.int .i64 LL) ∧ Below W.heap.size W w') := fun W hW => HLGC.out W _ _ _ _ _ _ (HN1.out.kp hW.2.2) (HN2.out.kp hW.2.2)
    have kW1 : IntKind.i64.wrap (2 * (1 - (BI : Int)) - 200) = 2 * (1 - (BI : Int)) - 200 := by rw [IntKind.wrap_i64]; omega
    have kW2 : IntKind.i64.wrap (2 * (1 - (BI : Int))) = 2 * (1 - (BI : Int)) := by rw [IntKind.wrap_i64]; omega
    have kW3 : IntKind.i64.wrap (2 * (BI : Int)) = 2 * (BI : Int) := by rw [IntKind.wrap_i64]; omega
    have kW4 : IntKind.i64.wrap R = R := by rw [IntKind.wrap_i64]; omega
    go_wp2_with fail
    go_region_held3 (fun W => (W.cell? ⟨w.heap.size, 0, none⟩ = some (.int .u8 (E : Int)) ∧ W.cell? ⟨w.heap.size, 1, none⟩ = some (.int .u8 (M : Int)) ∧ w.heap.size < W.heap.size ∧ Below w.heap.size w W) ∧ (W.cell? ⟨w3.heap.size, 0, none⟩ = some (.int .u64 (XX : Int)) ∧ W.cell? ⟨w3.heap.size, 1, none⟩ = some (.bool false) ∧ W.cell? ⟨w3.heap.size, 2, none⟩ = some (.int .i8 C) ∧ W.cell? ⟨w3.heap.size, 3, none⟩ = some (.bool VN) ∧ W.cell? ⟨w3.heap.size, 4, none⟩ = some (.slice a1 k1 c1) ∧ W.cell? ⟨w3.heap.size, 5, none⟩ = some (.slice a2 k2 c2) ∧ (∀ o, W.frozen? ⟨w3.heap.size, o, none⟩ = false) ∧ w3.heap.size < W.heap.size) ∧ Kp (w3.alloc (.cells #[.int .u64 (XX : Int), .bool false, .int .i8 C, .bool VN, .slice a1 k1 c1, .slice a2 k2 c2] 98)) W)
      ((repeat' (first | with_reducible assumption | with_reducible refine sx_drew ?_)))
      ((first | (go_at_call 120; refine Calls.mono (HE.out _) ?_; rintro _ w4 ⟨rfl, hb⟩; have hG4 := sx_next (by with_reducible assumption) hb; clear hb) | (go_at_call 121; refine Calls.mono (HX.out _) ?_; rintro _ w5 ⟨rfl, hb⟩; have hG5 := sx_next (by with_reducible assumption) hb; clear hb) | (go_at_call 69; (with_reducible refine Calls.mono (HLG2.out _ ?hh) ?_); (case hh => with_reducible assumption); rintro _ w6 ⟨rfl, hb⟩; have hG6 := sx_next (by with_reducible assumption) hb; clear hb)))
    clear hG hG4 hG5 HLG2 HLGC kW1 kW2 kW3
    go_wp2_with fail
    refine Calls.mono (HE.out _) ?_
    rintro _ w7 ⟨rfl, hb⟩
    have hG7 := sx_next hG6 hb
    clear hb hG6
    go_wp2_with fail
    refine Calls.mono (HRA.out _ _ _ _ _ _ _ (HN1.out.kp hG7.2.2) (HN2.out.kp hG7.2.2)) ?_
    rintro _ w8 ⟨b5, l5, e5, n, hroot, rfl, hM5, hb⟩
    have hG8 := sx_next hG7 hb
    obtain ⟨hFn1, hFn2⟩ : (∀ sm tiny, pkN E M mo false D (raN mo n NU DE) sm tiny = F) ∧ raN mo n NU DE ≤ 2 ^ (M + 1) := ⟨fun sm tiny => (HFX.out n sm tiny hroot).1, (HFX.out n true true hroot).2⟩
    obtain ⟨HF, HHF⟩ : ∃ HF, HF = raHf n NU DE := ⟨_, rfl⟩
    obtain ⟨SM, HSM⟩ : ∃ SM, SM = raSm n NU DE := ⟨_, rfl⟩
    obtain ⟨TOP, HTP0⟩ : ∃ TOP, TOP = raN mo n NU DE := ⟨_, rfl⟩
    rw [← HTP0] at hFn1 hFn2 hM5
    rw [← HHF, ← HSM]
    have hT64 : TOP < 18446744073709551616 := by omega
    have hG := sy_made 152 hG8 (.int .i8 HF) (.bool SM)
    have HTP : Hid (NatIs 20000 (w8.alloc (.cells #[.int .i8 HF, .bool SM] 152)) (.slice b5 l5 e5) TOP) := hM5.kept ((Below.refl _ _).alloc (Nat.le_refl _) _)
    have HKP : Hid (Kp (w3.alloc (.cells #[.int .u64 (XX : Int), .bool false, .int .i8 C, .bool VN, .slice a1 k1 c1, .slice a2 k2 c2] 98)) w8) := hG8.2.2
    have HPK2 : Hid (∀ w tiny, Calls Oajg.prog 124 #[.agg #[.int .u8 (E : Int), .int .u8 (M : Int)], .int .u8 (mo : Int), .bool false, .int .i64 (1 - (BI : Int)), .int .u64 (TOP : Int), .agg #[.int .i8 HF, .bool SM], .bool tiny] w fun e w' => ∃ fl, e = .returned (.tuple #[.int .u64 (F : Nat), .int .u8 fl]) ∧ Below w.heap.size w w') := fun w tiny => Calls.mono (HPK.out w TOP HF SM tiny hFn2) (by
      rintro x w' ⟨rfl, hb⟩
      rw [hFn1]
      exact ⟨_, rfl, hb⟩)
    clear hb hG7 hG8 hM5 HRA HFX hFn1 hFn2 HHF HSM HTP0 hroot HPK hM64
    go_wp2_with fail
    refine Calls.mono (HE.out _) ?_
    rintro _ w9 ⟨rfl, hb⟩
    have hG9 := sy_next hG hb
    clear hb
    go_wp2_with fail
    refine Calls.mono (HE.out _) ?_
    rintro _ w10 ⟨rfl, hb⟩
    have hG10 := sy_next hG9 hb
    clear hb hG9 hG
    have hk : Kp (w3.alloc (.cells #[.int .u64 (XX : Int), .bool false, .int .i8 C, .bool VN, .slice a1 k1 c1, .slice a2 k2 c2] 98)) w10 := (HKP.out.alloc _).trans hG10.2.2.1
    have HRB2 := hid_mk (HRB.out w10 _ _ _ _ _ _ (HN1.out.kp hk) (HN2.out.kp hk))
    clear hk HRB
    go_wp2_with fail
    refine Calls.mono HRB2.out ?_
    rintro _ w13 ⟨b8, l8, e8, HF2, SM2, FULL, rfl, hM8, hb⟩
    have hG13 := sy_next hG10 hb
    have hG14 := sy_base (sy_alloc hG13 (.cells #[.int .i8 HF2, .bool SM2] 152))
    have HFU : Hid (NatIs 20000 (w13.alloc (.cells #[.int .i8 HF2, .bool SM2] 152)) (.slice b8 l8 e8) FULL) := hM8.kept ((Below.refl _ _).alloc (Nat.le_refl _) _)
    have HTP2 : Hid (NatIs 20000 (w13.alloc (.cells #[.int .i8 HF2, .bool SM2] 152)) (.slice b5 l5 e5) TOP) := (HTP.out.kp hG13.2.2.1).kept ((Below.refl _ _).alloc (Nat.le_refl _) _)
    have HBL : Hid (∀ W, ((W.cell? ⟨w.heap.size, 0, none⟩ = some (.int .u8 (E : Int)) ∧ W.cell? ⟨w.heap.size, 1, none⟩ = some (.int .u8 (M : Int)) ∧ w.heap.size < W.heap.size ∧ Below w.heap.size w W) ∧ (W.cell? ⟨w3.heap.size, 0, none⟩ = some (.int .u64 (XX : Int)) ∧ W.cell? ⟨w3.heap.size, 1, none⟩ = some (.bool false) ∧ W.cell? ⟨w3.heap.size, 2, none⟩ = some (.int .i8 C) ∧ W.cell? ⟨w3.heap.size, 3, none⟩ = some (.bool VN) ∧ W.cell? ⟨w3.heap.size, 4, none⟩ = some (.slice a1 k1 c1) ∧ W.cell? ⟨w3.heap.size, 5, none⟩ = some (.slice a2 k2 c2) ∧ (∀ o, W.frozen? ⟨w3.heap.size, o, none⟩ = false) ∧ w3.heap.size < W.heap.size) ∧ Kp (w13.alloc (.cells #[.int .i8 HF2, .bool SM2] 152)) W ∧ (W.cell? ⟨w8.heap.size, 0, none⟩ = some (.int .i8 HF) ∧ W.cell? ⟨w8.heap.size, 1, none⟩ = some (.bool SM) ∧ (∀ o, W.frozen? ⟨w8.heap.size, o, none⟩ = false) ∧ w8.heap.size < W.heap.size)) → Calls Oajg.prog 68 #[.slice b8 l8 e8] W fun e w' => e = .returned (.int .i64 (bitLen FULL : Nat)) ∧ Below W.heap.size W w') := fun W hW => bitLen_ok 20000 _ FULL W (HFU.out.kp hW.2.2.1) (by decide)
    have HTU : Hid (∀ W, ((W.cell? ⟨w.heap.size, 0, none⟩ = some (.int .u8 (E : Int)) ∧ W.cell? ⟨w.heap.size, 1, none⟩ = some (.int .u8 (M : Int)) ∧ w.heap.size < W.heap.size ∧ Below w.heap.size w W) ∧ (W.cell? ⟨w3.heap.size, 0, none⟩ = some (.int .u64 (XX : Int)) ∧ W.cell? ⟨w3.heap.size, 1, none⟩ = some (.bool false) ∧ W.cell? ⟨w3.heap.size, 2, none⟩ = some (.int .i8 C) ∧ W.cell? ⟨w3.heap.size, 3, none⟩ = some (.bool VN) ∧ W.cell? ⟨w3.heap.size, 4, none⟩ = some (.slice a1 k1 c1) ∧ W.cell? ⟨w3.heap.size, 5, none⟩ = some (.slice a2 k2 c2) ∧ (∀ o, W.frozen? ⟨w3.heap.size, o, none⟩ = false) ∧ w3.heap.size < W.heap.size) ∧ Kp (w13.alloc (.cells #[.int .i8 HF2, .bool SM2] 152)) W ∧ (W.cell? ⟨w8.heap.size, 0, none⟩ = some (.int .i8 HF) ∧ W.cell? ⟨w8.heap.size, 1, none⟩ = some (.bool SM) ∧ (∀ o, W.frozen? ⟨w8.heap.size, o, none⟩ = false) ∧ w8.heap.size < W.heap.size)) → Calls Oajg.prog 125 #[.slice b5 l5 e5] W fun e w' => e = .returned (.int .u64 (TOP : Int)) ∧ Below W.heap.size W w') := fun W hW => toU64_ok 20000 _ TOP W (HTP2.out.kp hW.2.2.1) (by decide) hT64
    clear hb hG10 hG13 hM8 HRB2
    generalize bitLen FULL = BF at *
    obtain ⟨T, hT⟩ : ∃ T, ((BF : Int) == (M : Int) + 1) = T := ⟨_, rfl⟩
    have kT2 : ((BF : Int) == IntKind.i64.wrap (IntKind.i64.wrap (M : Int) + 1)) = T := by
      rw [show IntKind.i64.wrap (M : Int) = (M : Int) from by rw [IntKind.wrap_i64]; omega, show IntKind.i64.wrap ((M : Int) + 1) = (M : Int) + 1 from by rw [IntKind.wrap_i64]; omega]; exact hT
    go_wp2_with fail
    go_region_held3 (fun W => (W.cell? ⟨w.heap.size, 0, none⟩ = some (.int .u8 (E : Int)) ∧ W.cell? ⟨w.heap.size, 1, none⟩ = some (.int .u8 (M : Int)) ∧ w.heap.size < W.heap.size ∧ Below w.heap.size w W) ∧ (W.cell? ⟨w3.heap.size, 0, none⟩ = some (.int .u64 (XX : Int)) ∧ W.cell? ⟨w3.heap.size, 1, none⟩ = some (.bool false) ∧ W.cell? ⟨w3.heap.size, 2, none⟩ = some (.int .i8 C) ∧ W.cell? ⟨w3.heap.size, 3, none⟩ = some (.bool VN) ∧ W.cell? ⟨w3.heap.size, 4, none⟩ = some (.slice a1 k1 c1) ∧ W.cell? ⟨w3.heap.size, 5, none⟩ = some (.slice a2 k2 c2) ∧ (∀ o, W.frozen? ⟨w3.heap.size, o, none⟩ = false) ∧ w3.heap.size < W.heap.size) ∧ Kp (w13.alloc (.cells #[.int .i8 HF2, .bool SM2] 152)) W ∧ (W.cell? ⟨w8.heap.size, 0, none⟩ = some (.int .i8 HF) ∧ W.cell? ⟨w8.heap.size, 1, none⟩ = some (.bool SM) ∧ (∀ o, W.frozen? ⟨w8.heap.size, o, none⟩ = false) ∧ w8.heap.size < W.heap.size))
      ((repeat' (first | with_reducible assumption | with_reducible refine sy_drew ?_)))
      ((go_at_call 68; (with_reducible refine Calls.mono (HBL.out _ ?hh) ?_); (case hh => with_reducible assumption); rintro _ w14 ⟨rfl, hb⟩; have hG15 := sy_next (by with_reducible assumption) hb; clear hb))
    clear hG14 hT kT2
    go_wp2_with fail
    go_region_held3 (fun W => (W.cell? ⟨w.heap.size, 0, none⟩ = some (.int .u8 (E : Int)) ∧ W.cell? ⟨w.heap.size, 1, none⟩ = some (.int .u8 (M : Int)) ∧ w.heap.size < W.heap.size ∧ Below w.heap.size w W) ∧ (W.cell? ⟨w3.heap.size, 0, none⟩ = some (.int .u64 (XX : Int)) ∧ W.cell? ⟨w3.heap.size, 1, none⟩ = some (.bool false) ∧ W.cell? ⟨w3.heap.size, 2, none⟩ = some (.int .i8 C) ∧ W.cell? ⟨w3.heap.size, 3, none⟩ = some (.bool VN) ∧ W.cell? ⟨w3.heap.size, 4, none⟩ = some (.slice a1 k1 c1) ∧ W.cell? ⟨w3.heap.size, 5, none⟩ = some (.slice a2 k2 c2) ∧ (∀ o, W.frozen? ⟨w3.heap.size, o, none⟩ = false) ∧ w3.heap.size < W.heap.size) ∧ Kp (w13.alloc (.cells #[.int .i8 HF2, .bool SM2] 152)) W ∧ (W.cell? ⟨w8.heap.size, 0, none⟩ = some (.int .i8 HF) ∧ W.cell? ⟨w8.heap.size, 1, none⟩ = some (.bool SM) ∧ (∀ o, W.frozen? ⟨w8.heap.size, o, none⟩ = false) ∧ w8.heap.size < W.heap.size))
      ((repeat' (first | with_reducible assumption | with_reducible refine sy_drew ?_)))
      ((first | (go_at_call 125; (with_reducible refine Calls.mono (HTU.out _ ?hh) ?_); (case hh => with_reducible assumption); rintro _ w15 ⟨rfl, hb⟩; have hG16 := sy_next (by with_reducible assumption) hb; clear hb) | (go_at_call 124; refine Calls.mono (HPK2.out _ _) ?_; rintro _ w16 ⟨fl, rfl, hb⟩; have hG17 := sy_next (by with_reducible assumption) hb; clear hb)))
    go_wp2_with fail
    go_ret2
    exact ⟨_, by rw [HRN.out]; rfl, hG17.1.2.2.2⟩
  · have jL : R < 1 - (BI : Int) := by omega
    have jE : (R == 1 - (BI : Int) - 1) = false := by simp; omega
    go_enter Oajg.func102, Oajg.ntmps102
    go_wp2_with fail
    refine Calls.mono (HO.out _) ?_
    rintro _ w1 ⟨rfl, hb⟩
    replace hF := sf_next hF hb
    clear hb
    go_wp2_with fail
    refine Calls.mono (HUP.out _) ?_
    rintro _ w3 ⟨a1, k1, c1, a2, k2, c2, rfl, hN1, hN2, hb⟩
    replace hF := sf_next hF hb
    have hG := sx_made 98 hF (.int .u64 (XX : Int)) (.bool false) (.int .i8 C) (.bool VN) (.slice a1 k1 c1) (.slice a2 k2 c2)
    have HN1 : Hid (NatIs 2050 (w3.alloc (.cells #[.int .u64 (XX : Int), .bool false, .int .i8 C, .bool VN, .slice a1 k1 c1, .slice a2 k2 c2] 98)) (.slice a1 k1 c1) NUM) := hN1.kept ((Below.refl _ _).alloc (Nat.le_refl _) _)
    have HN2 : Hid (NatIs 2050 (w3.alloc (.cells #[.int .u64 (XX : Int), .bool false, .int .i8 C, .bool VN, .slice a1 k1 c1, .slice a2 k2 c2] 98)) (.slice a2 k2 c2) DEN) := hN2.kept ((Below.refl _ _).alloc (Nat.le_refl _) _)
    clear hb hF hN1 hN2
    have HLG2 : Hid (∀ W, ((W.cell? ⟨w.heap.size, 0, none⟩ = some (.int .u8 (E : Int)) ∧ W.cell? ⟨w.heap.size, 1, none⟩ = some (.int .u8 (M : Int)) ∧ w.heap.size < W.heap.size ∧ Below w.heap.size w W) ∧ (W.cell? ⟨w3.heap.size, 0, none⟩ = some (.int .u64 (XX : Int)) ∧ W.cell? ⟨w3.heap.size, 1, none⟩ = some (.bool false) ∧ W.cell? ⟨w3.heap.size, 2, none⟩ = some (.int .i8 C) ∧ W.cell? ⟨w3.heap.size, 3, none⟩ = some (.bool VN) ∧ W.cell? ⟨w3.heap.size, 4, none⟩ = some (.slice a1 k1 c1) ∧ W.cell? ⟨w3.heap.size, 5, none⟩ = some (.slice a2 k2 c2) ∧ (∀ o, W.frozen? ⟨w3.heap.size, o, none⟩ = false) ∧ w3.heap.size < W.heap.size) ∧ Kp (w3.alloc (.cells #[.int .u64 (XX : Int), .bool false, .int .i8 C, .bool VN, .slice a1 k1 c1, .slice a2 k2 c2] 98)) W) → Calls Oajg.prog 69 #[.slice a1 k1 c1, .slice a2 k2 c2, .int .i64 (2 * (1 - (BI : Int)) - 200), .int .i64 (2 * (BI : Int))] W fun e w' => e = .returned (.int .i64 LL) ∧ Below W.heap.size W w') := fun W hW => HLGC.out W _ _ _ _ _ _ (HN1.out.kp hW.2.2) (HN2.out.kp hW.2.2)
    have kW1 : IntKind.i64.wrap (2 * (1 - (BI : Int)) - 200) = 2 * (1 - (BI : Int)) - 200 := by rw [IntKind.wrap_i64]; omega
    have kW2 : IntKind.i64.wrap (2 * (1 - (BI : Int))) = 2 * (1 - (BI : Int)) := by rw [IntKind.wrap_i64]; omega
    have kW3 : IntKind.i64.wrap (2 * (BI : Int)) = 2 * (BI : Int) := by rw [IntKind.wrap_i64]; omega
    have kW4 : IntKind.i64.wrap R = R := by rw [IntKind.wrap_i64]; omega
    go_wp2_with fail
    go_region_held3 (fun W => (W.cell? ⟨w.heap.size, 0, none⟩ = some (.int .u8 (E : Int)) ∧ W.cell? ⟨w.heap.size, 1, none⟩ = some (.int .u8 (M : Int)) ∧ w.heap.size < W.heap.size ∧ Below w.heap.size w W) ∧ (W.cell? ⟨w3.heap.size, 0, none⟩ = some (.int .u64 (XX : Int)) ∧ W.cell? ⟨w3.heap.size, 1, none⟩ = some (.bool false) ∧ W.cell? ⟨w3.heap.size, 2, none⟩ = some (.int .i8 C) ∧ W.cell? ⟨w3.heap.size, 3, none⟩ = some (.bool VN) ∧ W.cell? ⟨w3.heap.size, 4, none⟩ = some (.slice a1 k1 c1) ∧ W.cell? ⟨w3.heap.size, 5, none⟩ = some (.slice a2 k2 c2) ∧ (∀ o, W.frozen? ⟨w3.heap.size, o, none⟩ = false) ∧ w3.heap.size < W.heap.size) ∧ Kp (w3.alloc (.cells #[.int .u64 (XX : Int), .bool false, .int .i8 C, .bool VN, .slice a1 k1 c1, .slice a2 k2 c2] 98)) W)
      ((repeat' (first | with_reducible assumption | with_reducible refine sx_drew ?_)))
      ((first | (go_at_call 120; refine Calls.mono (HE.out _) ?_; rintro _ w4 ⟨rfl, hb⟩; have hG4 := sx_next (by with_reducible assumption) hb; clear hb) | (go_at_call 121; refine Calls.mono (HX.out _) ?_; rintro _ w5 ⟨rfl, hb⟩; have hG5 := sx_next (by with_reducible assumption) hb; clear hb) | (go_at_call 69; (with_reducible refine Calls.mono (HLG2.out _ ?hh) ?_); (case hh => with_reducible assumption); rintro _ w6 ⟨rfl, hb⟩; have hG6 := sx_next (by with_reducible assumption) hb; clear hb)))
    clear hG hG4 hG5 HLG2 HLGC kW1 kW2 kW3
    go_wp2_with fail
    refine Calls.mono (HE.out _) ?_
    rintro _ w7 ⟨rfl, hb⟩
    have hG7 := sx_next hG6 hb
    clear hb hG6
    go_wp2_with fail
    refine Calls.mono (HRA.out _ _ _ _ _ _ _ (HN1.out.kp hG7.2.2) (HN2.out.kp hG7.2.2)) ?_
    rintro _ w8 ⟨b5, l5, e5, n, hroot, rfl, hM5, hb⟩
    have hG8 := sx_next hG7 hb
    obtain ⟨hFn1, hFn2⟩ : (∀ sm tiny, pkN E M mo false D (raN mo n NU DE) sm tiny = F) ∧ raN mo n NU DE ≤ 2 ^ (M + 1) := ⟨fun sm tiny => (HFX.out n sm tiny hroot).1, (HFX.out n true true hroot).2⟩
    obtain ⟨HF, HHF⟩ : ∃ HF, HF = raHf n NU DE := ⟨_, rfl⟩
    obtain ⟨SM, HSM⟩ : ∃ SM, SM = raSm n NU DE := ⟨_, rfl⟩
    obtain ⟨TOP, HTP0⟩ : ∃ TOP, TOP = raN mo n NU DE := ⟨_, rfl⟩
    rw [← HTP0] at hFn1 hFn2 hM5
    rw [← HHF, ← HSM]
    have hT64 : TOP < 18446744073709551616 := by omega
    have hG := sy_made 152 hG8 (.int .i8 HF) (.bool SM)
    have HTP : Hid (NatIs 20000 (w8.alloc (.cells #[.int .i8 HF, .bool SM] 152)) (.slice b5 l5 e5) TOP) := hM5.kept ((Below.refl _ _).alloc (Nat.le_refl _) _)
    have HKP : Hid (Kp (w3.alloc (.cells #[.int .u64 (XX : Int), .bool false, .int .i8 C, .bool VN, .slice a1 k1 c1, .slice a2 k2 c2] 98)) w8) := hG8.2.2
    have HPK2 : Hid (∀ w tiny, Calls Oajg.prog 124 #[.agg #[.int .u8 (E : Int), .int .u8 (M : Int)], .int .u8 (mo : Int), .bool false, .int .i64 (1 - (BI : Int)), .int .u64 (TOP : Int), .agg #[.int .i8 HF, .bool SM], .bool tiny] w fun e w' => ∃ fl, e = .returned (.tuple #[.int .u64 (F : Nat), .int .u8 fl]) ∧ Below w.heap.size w w') := fun w tiny => Calls.mono (HPK.out w TOP HF SM tiny hFn2) (by
      rintro x w' ⟨rfl, hb⟩
      rw [hFn1]
      exact ⟨_, rfl, hb⟩)
    clear hb hG7 hG8 hM5 HRA HFX hFn1 hFn2 HHF HSM HTP0 hroot HPK hM64
    go_wp2_with fail
    refine Calls.mono (HE.out _) ?_
    rintro _ w9 ⟨rfl, hb⟩
    have hG9 := sy_next hG hb
    clear hb
    go_wp2_with fail
    refine Calls.mono (HE.out _) ?_
    rintro _ w10 ⟨rfl, hb⟩
    have hG10 := sy_next hG9 hb
    clear hb hG9 hG
    have HTU : Hid (∀ W, ((W.cell? ⟨w.heap.size, 0, none⟩ = some (.int .u8 (E : Int)) ∧ W.cell? ⟨w.heap.size, 1, none⟩ = some (.int .u8 (M : Int)) ∧ w.heap.size < W.heap.size ∧ Below w.heap.size w W) ∧ (W.cell? ⟨w3.heap.size, 0, none⟩ = some (.int .u64 (XX : Int)) ∧ W.cell? ⟨w3.heap.size, 1, none⟩ = some (.bool false) ∧ W.cell? ⟨w3.heap.size, 2, none⟩ = some (.int .i8 C) ∧ W.cell? ⟨w3.heap.size, 3, none⟩ = some (.bool VN) ∧ W.cell? ⟨w3.heap.size, 4, none⟩ = some (.slice a1 k1 c1) ∧ W.cell? ⟨w3.heap.size, 5, none⟩ = some (.slice a2 k2 c2) ∧ (∀ o, W.frozen? ⟨w3.heap.size, o, none⟩ = false) ∧ w3.heap.size < W.heap.size) ∧ Kp (w8.alloc (.cells #[.int .i8 HF, .bool SM] 152)) W ∧ (W.cell? ⟨w8.heap.size, 0, none⟩ = some (.int .i8 HF) ∧ W.cell? ⟨w8.heap.size, 1, none⟩ = some (.bool SM) ∧ (∀ o, W.frozen? ⟨w8.heap.size, o, none⟩ = false) ∧ w8.heap.size < W.heap.size)) → Calls Oajg.prog 125 #[.slice b5 l5 e5] W fun e w' => e = .returned (.int .u64 (TOP : Int)) ∧ Below W.heap.size W w') := fun W hW => toU64_ok 20000 _ TOP W (HTP.out.kp hW.2.2.1) (by decide) hT64
    go_wp2_with fail
    go_region_held3 (fun W => (W.cell? ⟨w.heap.size, 0, none⟩ = some (.int .u8 (E : Int)) ∧ W.cell? ⟨w.heap.size, 1, none⟩ = some (.int .u8 (M : Int)) ∧ w.heap.size < W.heap.size ∧ Below w.heap.size w W) ∧ (W.cell? ⟨w3.heap.size, 0, none⟩ = some (.int .u64 (XX : Int)) ∧ W.cell? ⟨w3.heap.size, 1, none⟩ = some (.bool false) ∧ W.cell? ⟨w3.heap.size, 2, none⟩ = some (.int .i8 C) ∧ W.cell? ⟨w3.heap.size, 3, none⟩ = some (.bool VN) ∧ W.cell? ⟨w3.heap.size, 4, none⟩ = some (.slice a1 k1 c1) ∧ W.cell? ⟨w3.heap.size, 5, none⟩ = some (.slice a2 k2 c2) ∧ (∀ o, W.frozen? ⟨w3.heap.size, o, none⟩ = false) ∧ w3.heap.size < W.heap.size) ∧ Kp (w8.alloc (.cells #[.int .i8 HF, .bool SM] 152)) W ∧ (W.cell? ⟨w8.heap.size, 0, none⟩ = some (.int .i8 HF) ∧ W.cell? ⟨w8.heap.size, 1, none⟩ = some (.bool SM) ∧ (∀ o, W.frozen? ⟨w8.heap.size, o, none⟩ = false) ∧ w8.heap.size < W.heap.size))
      ((repeat' (first | with_reducible assumption | with_reducible refine sy_drew ?_)))
      ((first | (go_at_call 125; (with_reducible refine Calls.mono (HTU.out _ ?hh) ?_); (case hh => with_reducible assumption); rintro _ w12 ⟨rfl, hb⟩; have hG12 := sy_next (by with_reducible assumption) hb; clear hb) | (go_at_call 124; refine Calls.mono (HPK2.out _ _) ?_; rintro _ w13 ⟨fl, rfl, hb⟩; have hG13 := sy_next (by with_reducible assumption) hb; clear hb)))
    go_wp2_with fail
    go_ret2
    exact ⟨_, by rw [HRN.out]; rfl, hG13.1.2.2.2⟩

end Go.Proofs.Ygcoaj
