/-
  WALKS: exact.Shortest (111).
-/
import Derived.Test.YgcoajRy11
set_option linter.unusedVariables false
set_option linter.unusedSimpArgs false
namespace Go.Proofs.Ygcoaj
open Go.RowKit

theorem q23z_next {w W W' : World} {m0 m1 : Nat} {x00 x01 x10 x11 x12 : Value} (h : (W.cell? ⟨m0, 0, none⟩ = some x00 ∧ W.cell? ⟨m0, 1, none⟩ = some x01 ∧ (∀ o, W.frozen? ⟨m0, o, none⟩ = false) ∧ m0 < W.heap.size) ∧ (W.cell? ⟨m1, 0, none⟩ = some x10 ∧ W.cell? ⟨m1, 1, none⟩ = some x11 ∧ W.cell? ⟨m1, 2, none⟩ = some x12 ∧ (∀ o, W.frozen? ⟨m1, o, none⟩ = false) ∧ m1 < W.heap.size) ∧ Below w.heap.size w W) (hb : Below W.heap.size W W') : (W'.cell? ⟨m0, 0, none⟩ = some x00 ∧ W'.cell? ⟨m0, 1, none⟩ = some x01 ∧ (∀ o, W'.frozen? ⟨m0, o, none⟩ = false) ∧ m0 < W'.heap.size) ∧ (W'.cell? ⟨m1, 0, none⟩ = some x10 ∧ W'.cell? ⟨m1, 1, none⟩ = some x11 ∧ W'.cell? ⟨m1, 2, none⟩ = some x12 ∧ (∀ o, W'.frozen? ⟨m1, o, none⟩ = false) ∧ m1 < W'.heap.size) ∧ Below w.heap.size w W' := ⟨bx2_next h.1 hb, bx3_next h.2.1 hb, below_then h.2.2 hb⟩
theorem q23z_drew {w W : World} {m0 m1 : Nat} {x00 x01 x10 x11 x12 : Value} (h : (W.cell? ⟨m0, 0, none⟩ = some x00 ∧ W.cell? ⟨m0, 1, none⟩ = some x01 ∧ (∀ o, W.frozen? ⟨m0, o, none⟩ = false) ∧ m0 < W.heap.size) ∧ (W.cell? ⟨m1, 0, none⟩ = some x10 ∧ W.cell? ⟨m1, 1, none⟩ = some x11 ∧ W.cell? ⟨m1, 2, none⟩ = some x12 ∧ (∀ o, W.frozen? ⟨m1, o, none⟩ = false) ∧ m1 < W.heap.size) ∧ Below w.heap.size w W) : (W.drew.cell? ⟨m0, 0, none⟩ = some x00 ∧ W.drew.cell? ⟨m0, 1, none⟩ = some x01 ∧ (∀ o, W.drew.frozen? ⟨m0, o, none⟩ = false) ∧ m0 < W.drew.heap.size) ∧ (W.drew.cell? ⟨m1, 0, none⟩ = some x10 ∧ W.drew.cell? ⟨m1, 1, none⟩ = some x11 ∧ W.drew.cell? ⟨m1, 2, none⟩ = some x12 ∧ (∀ o, W.drew.frozen? ⟨m1, o, none⟩ = false) ∧ m1 < W.drew.heap.size) ∧ Below w.heap.size w W.drew := ⟨bx2_drew h.1, bx3_drew h.2.1, h.2.2.drew⟩
theorem q23z_alloc {w W : World} {m0 m1 : Nat} {x00 x01 x10 x11 x12 : Value} (h : (W.cell? ⟨m0, 0, none⟩ = some x00 ∧ W.cell? ⟨m0, 1, none⟩ = some x01 ∧ (∀ o, W.frozen? ⟨m0, o, none⟩ = false) ∧ m0 < W.heap.size) ∧ (W.cell? ⟨m1, 0, none⟩ = some x10 ∧ W.cell? ⟨m1, 1, none⟩ = some x11 ∧ W.cell? ⟨m1, 2, none⟩ = some x12 ∧ (∀ o, W.frozen? ⟨m1, o, none⟩ = false) ∧ m1 < W.heap.size) ∧ Below w.heap.size w W) (ob : Obj) : ((W.alloc ob).cell? ⟨m0, 0, none⟩ = some x00 ∧ (W.alloc ob).cell? ⟨m0, 1, none⟩ = some x01 ∧ (∀ o, (W.alloc ob).frozen? ⟨m0, o, none⟩ = false) ∧ m0 < (W.alloc ob).heap.size) ∧ ((W.alloc ob).cell? ⟨m1, 0, none⟩ = some x10 ∧ (W.alloc ob).cell? ⟨m1, 1, none⟩ = some x11 ∧ (W.alloc ob).cell? ⟨m1, 2, none⟩ = some x12 ∧ (∀ o, (W.alloc ob).frozen? ⟨m1, o, none⟩ = false) ∧ m1 < (W.alloc ob).heap.size) ∧ Below w.heap.size w (W.alloc ob) := ⟨bx2_alloc h.1 ob, bx3_alloc h.2.1 ob, h.2.2.alloc h.2.2.size ob⟩
theorem q23z_store {w W : World} {m0 m1 : Nat} {x00 x01 x10 x11 x12 : Value} (h : (W.cell? ⟨m0, 0, none⟩ = some x00 ∧ W.cell? ⟨m0, 1, none⟩ = some x01 ∧ (∀ o, W.frozen? ⟨m0, o, none⟩ = false) ∧ m0 < W.heap.size) ∧ (W.cell? ⟨m1, 0, none⟩ = some x10 ∧ W.cell? ⟨m1, 1, none⟩ = some x11 ∧ W.cell? ⟨m1, 2, none⟩ = some x12 ∧ (∀ o, W.frozen? ⟨m1, o, none⟩ = false) ∧ m1 < W.heap.size) ∧ Below w.heap.size w W) {p : Addr} {u : Value} (hp : w.heap.size ≤ p.block ∧ m0 ≠ p.block ∧ m1 ≠ p.block) : ((W.setCell p u).cell? ⟨m0, 0, none⟩ = some x00 ∧ (W.setCell p u).cell? ⟨m0, 1, none⟩ = some x01 ∧ (∀ o, (W.setCell p u).frozen? ⟨m0, o, none⟩ = false) ∧ m0 < (W.setCell p u).heap.size) ∧ ((W.setCell p u).cell? ⟨m1, 0, none⟩ = some x10 ∧ (W.setCell p u).cell? ⟨m1, 1, none⟩ = some x11 ∧ (W.setCell p u).cell? ⟨m1, 2, none⟩ = some x12 ∧ (∀ o, (W.setCell p u).frozen? ⟨m1, o, none⟩ = false) ∧ m1 < (W.setCell p u).heap.size) ∧ Below w.heap.size w (W.setCell p u) := ⟨bx2_far h.1 hp.2.1, bx3_far h.2.1 hp.2.2, h.2.2.setCell hp.1 u⟩
theorem q236_next {w W W' : World} {m0 m1 m2 : Nat} {x00 x01 x10 x11 x12 x20 x21 x22 x23 x24 x25 : Value} (h : (W.cell? ⟨m0, 0, none⟩ = some x00 ∧ W.cell? ⟨m0, 1, none⟩ = some x01 ∧ (∀ o, W.frozen? ⟨m0, o, none⟩ = false) ∧ m0 < W.heap.size) ∧ (W.cell? ⟨m1, 0, none⟩ = some x10 ∧ W.cell? ⟨m1, 1, none⟩ = some x11 ∧ W.cell? ⟨m1, 2, none⟩ = some x12 ∧ (∀ o, W.frozen? ⟨m1, o, none⟩ = false) ∧ m1 < W.heap.size) ∧ (W.cell? ⟨m2, 0, none⟩ = some x20 ∧ W.cell? ⟨m2, 1, none⟩ = some x21 ∧ W.cell? ⟨m2, 2, none⟩ = some x22 ∧ W.cell? ⟨m2, 3, none⟩ = some x23 ∧ W.cell? ⟨m2, 4, none⟩ = some x24 ∧ W.cell? ⟨m2, 5, none⟩ = some x25 ∧ (∀ o, W.frozen? ⟨m2, o, none⟩ = false) ∧ m2 < W.heap.size) ∧ Below w.heap.size w W) (hb : Below W.heap.size W W') : (W'.cell? ⟨m0, 0, none⟩ = some x00 ∧ W'.cell? ⟨m0, 1, none⟩ = some x01 ∧ (∀ o, W'.frozen? ⟨m0, o, none⟩ = false) ∧ m0 < W'.heap.size) ∧ (W'.cell? ⟨m1, 0, none⟩ = some x10 ∧ W'.cell? ⟨m1, 1, none⟩ = some x11 ∧ W'.cell? ⟨m1, 2, none⟩ = some x12 ∧ (∀ o, W'.frozen? ⟨m1, o, none⟩ = false) ∧ m1 < W'.heap.size) ∧ (W'.cell? ⟨m2, 0, none⟩ = some x20 ∧ W'.cell? ⟨m2, 1, none⟩ = some x21 ∧ W'.cell? ⟨m2, 2, none⟩ = some x22 ∧ W'.cell? ⟨m2, 3, none⟩ = some x23 ∧ W'.cell? ⟨m2, 4, none⟩ = some x24 ∧ W'.cell? ⟨m2, 5, none⟩ = some x25 ∧ (∀ o, W'.frozen? ⟨m2, o, none⟩ = false) ∧ m2 < W'.heap.size) ∧ Below w.heap.size w W' := ⟨bx2_next h.1 hb, bx3_next h.2.1 hb, bx6_next h.2.2.1 hb, below_then h.2.2.2 hb⟩
theorem q236_drew {w W : World} {m0 m1 m2 : Nat} {x00 x01 x10 x11 x12 x20 x21 x22 x23 x24 x25 : Value} (h : (W.cell? ⟨m0, 0, none⟩ = some x00 ∧ W.cell? ⟨m0, 1, none⟩ = some x01 ∧ (∀ o, W.frozen? ⟨m0, o, none⟩ = false) ∧ m0 < W.heap.size) ∧ (W.cell? ⟨m1, 0, none⟩ = some x10 ∧ W.cell? ⟨m1, 1, none⟩ = some x11 ∧ W.cell? ⟨m1, 2, none⟩ = some x12 ∧ (∀ o, W.frozen? ⟨m1, o, none⟩ = false) ∧ m1 < W.heap.size) ∧ (W.cell? ⟨m2, 0, none⟩ = some x20 ∧ W.cell? ⟨m2, 1, none⟩ = some x21 ∧ W.cell? ⟨m2, 2, none⟩ = some x22 ∧ W.cell? ⟨m2, 3, none⟩ = some x23 ∧ W.cell? ⟨m2, 4, none⟩ = some x24 ∧ W.cell? ⟨m2, 5, none⟩ = some x25 ∧ (∀ o, W.frozen? ⟨m2, o, none⟩ = false) ∧ m2 < W.heap.size) ∧ Below w.heap.size w W) : (W.drew.cell? ⟨m0, 0, none⟩ = some x00 ∧ W.drew.cell? ⟨m0, 1, none⟩ = some x01 ∧ (∀ o, W.drew.frozen? ⟨m0, o, none⟩ = false) ∧ m0 < W.drew.heap.size) ∧ (W.drew.cell? ⟨m1, 0, none⟩ = some x10 ∧ W.drew.cell? ⟨m1, 1, none⟩ = some x11 ∧ W.drew.cell? ⟨m1, 2, none⟩ = some x12 ∧ (∀ o, W.drew.frozen? ⟨m1, o, none⟩ = false) ∧ m1 < W.drew.heap.size) ∧ (W.drew.cell? ⟨m2, 0, none⟩ = some x20 ∧ W.drew.cell? ⟨m2, 1, none⟩ = some x21 ∧ W.drew.cell? ⟨m2, 2, none⟩ = some x22 ∧ W.drew.cell? ⟨m2, 3, none⟩ = some x23 ∧ W.drew.cell? ⟨m2, 4, none⟩ = some x24 ∧ W.drew.cell? ⟨m2, 5, none⟩ = some x25 ∧ (∀ o, W.drew.frozen? ⟨m2, o, none⟩ = false) ∧ m2 < W.drew.heap.size) ∧ Below w.heap.size w W.drew := ⟨bx2_drew h.1, bx3_drew h.2.1, bx6_drew h.2.2.1, h.2.2.2.drew⟩
theorem q236_alloc {w W : World} {m0 m1 m2 : Nat} {x00 x01 x10 x11 x12 x20 x21 x22 x23 x24 x25 : Value} (h : (W.cell? ⟨m0, 0, none⟩ = some x00 ∧ W.cell? ⟨m0, 1, none⟩ = some x01 ∧ (∀ o, W.frozen? ⟨m0, o, none⟩ = false) ∧ m0 < W.heap.size) ∧ (W.cell? ⟨m1, 0, none⟩ = some x10 ∧ W.cell? ⟨m1, 1, none⟩ = some x11 ∧ W.cell? ⟨m1, 2, none⟩ = some x12 ∧ (∀ o, W.frozen? ⟨m1, o, none⟩ = false) ∧ m1 < W.heap.size) ∧ (W.cell? ⟨m2, 0, none⟩ = some x20 ∧ W.cell? ⟨m2, 1, none⟩ = some x21 ∧ W.cell? ⟨m2, 2, none⟩ = some x22 ∧ W.cell? ⟨m2, 3, none⟩ = some x23 ∧ W.cell? ⟨m2, 4, none⟩ = some x24 ∧ W.cell? ⟨m2, 5, none⟩ = some x25 ∧ (∀ o, W.frozen? ⟨m2, o, none⟩ = false) ∧ m2 < W.heap.size) ∧ Below w.heap.size w W) (ob : Obj) : ((W.alloc ob).cell? ⟨m0, 0, none⟩ = some x00 ∧ (W.alloc ob).cell? ⟨m0, 1, none⟩ = some x01 ∧ (∀ o, (W.alloc ob).frozen? ⟨m0, o, none⟩ = false) ∧ m0 < (W.alloc ob).heap.size) ∧ ((W.alloc ob).cell? ⟨m1, 0, none⟩ = some x10 ∧ (W.alloc ob).cell? ⟨m1, 1, none⟩ = some x11 ∧ (W.alloc ob).cell? ⟨m1, 2, none⟩ = some x12 ∧ (∀ o, (W.alloc ob).frozen? ⟨m1, o, none⟩ = false) ∧ m1 < (W.alloc ob).heap.size) ∧ ((W.alloc ob).cell? ⟨m2, 0, none⟩ = some x20 ∧ (W.alloc ob).cell? ⟨m2, 1, none⟩ = some x21 ∧ (W.alloc ob).cell? ⟨m2, 2, none⟩ = some x22 ∧ (W.alloc ob).cell? ⟨m2, 3, none⟩ = some x23 ∧ (W.alloc ob).cell? ⟨m2, 4, none⟩ = some x24 ∧ (W.alloc ob).cell? ⟨m2, 5, none⟩ = some x25 ∧ (∀ o, (W.alloc ob).frozen? ⟨m2, o, none⟩ = false) ∧ m2 < (W.alloc ob).heap.size) ∧ Below w.heap.size w (W.alloc ob) := ⟨bx2_alloc h.1 ob, bx3_alloc h.2.1 ob, bx6_alloc h.2.2.1 ob, h.2.2.2.alloc h.2.2.2.size ob⟩
theorem q236_store {w W : World} {m0 m1 m2 : Nat} {x00 x01 x10 x11 x12 x20 x21 x22 x23 x24 x25 : Value} (h : (W.cell? ⟨m0, 0, none⟩ = some x00 ∧ W.cell? ⟨m0, 1, none⟩ = some x01 ∧ (∀ o, W.frozen? ⟨m0, o, none⟩ = false) ∧ m0 < W.heap.size) ∧ (W.cell? ⟨m1, 0, none⟩ = some x10 ∧ W.cell? ⟨m1, 1, none⟩ = some x11 ∧ W.cell? ⟨m1, 2, none⟩ = some x12 ∧ (∀ o, W.frozen? ⟨m1, o, none⟩ = false) ∧ m1 < W.heap.size) ∧ (W.cell? ⟨m2, 0, none⟩ = some x20 ∧ W.cell? ⟨m2, 1, none⟩ = some x21 ∧ W.cell? ⟨m2, 2, none⟩ = some x22 ∧ W.cell? ⟨m2, 3, none⟩ = some x23 ∧ W.cell? ⟨m2, 4, none⟩ = some x24 ∧ W.cell? ⟨m2, 5, none⟩ = some x25 ∧ (∀ o, W.frozen? ⟨m2, o, none⟩ = false) ∧ m2 < W.heap.size) ∧ Below w.heap.size w W) {p : Addr} {u : Value} (hp : w.heap.size ≤ p.block ∧ m0 ≠ p.block ∧ m1 ≠ p.block ∧ m2 ≠ p.block) : ((W.setCell p u).cell? ⟨m0, 0, none⟩ = some x00 ∧ (W.setCell p u).cell? ⟨m0, 1, none⟩ = some x01 ∧ (∀ o, (W.setCell p u).frozen? ⟨m0, o, none⟩ = false) ∧ m0 < (W.setCell p u).heap.size) ∧ ((W.setCell p u).cell? ⟨m1, 0, none⟩ = some x10 ∧ (W.setCell p u).cell? ⟨m1, 1, none⟩ = some x11 ∧ (W.setCell p u).cell? ⟨m1, 2, none⟩ = some x12 ∧ (∀ o, (W.setCell p u).frozen? ⟨m1, o, none⟩ = false) ∧ m1 < (W.setCell p u).heap.size) ∧ ((W.setCell p u).cell? ⟨m2, 0, none⟩ = some x20 ∧ (W.setCell p u).cell? ⟨m2, 1, none⟩ = some x21 ∧ (W.setCell p u).cell? ⟨m2, 2, none⟩ = some x22 ∧ (W.setCell p u).cell? ⟨m2, 3, none⟩ = some x23 ∧ (W.setCell p u).cell? ⟨m2, 4, none⟩ = some x24 ∧ (W.setCell p u).cell? ⟨m2, 5, none⟩ = some x25 ∧ (∀ o, (W.setCell p u).frozen? ⟨m2, o, none⟩ = false) ∧ m2 < (W.setCell p u).heap.size) ∧ Below w.heap.size w (W.setCell p u) := ⟨bx2_far h.1 hp.2.1, bx3_far h.2.1 hp.2.2.1, bx6_far h.2.2.1 hp.2.2.2, h.2.2.2.setCell hp.1 u⟩
theorem q2362_next {w W W' : World} {m0 m1 m2 m3 : Nat} {x00 x01 x10 x11 x12 x20 x21 x22 x23 x24 x25 x30 x31 : Value} (h : (W.cell? ⟨m0, 0, none⟩ = some x00 ∧ W.cell? ⟨m0, 1, none⟩ = some x01 ∧ (∀ o, W.frozen? ⟨m0, o, none⟩ = false) ∧ m0 < W.heap.size) ∧ (W.cell? ⟨m1, 0, none⟩ = some x10 ∧ W.cell? ⟨m1, 1, none⟩ = some x11 ∧ W.cell? ⟨m1, 2, none⟩ = some x12 ∧ (∀ o, W.frozen? ⟨m1, o, none⟩ = false) ∧ m1 < W.heap.size) ∧ (W.cell? ⟨m2, 0, none⟩ = some x20 ∧ W.cell? ⟨m2, 1, none⟩ = some x21 ∧ W.cell? ⟨m2, 2, none⟩ = some x22 ∧ W.cell? ⟨m2, 3, none⟩ = some x23 ∧ W.cell? ⟨m2, 4, none⟩ = some x24 ∧ W.cell? ⟨m2, 5, none⟩ = some x25 ∧ (∀ o, W.frozen? ⟨m2, o, none⟩ = false) ∧ m2 < W.heap.size) ∧ (W.cell? ⟨m3, 0, none⟩ = some x30 ∧ W.cell? ⟨m3, 1, none⟩ = some x31 ∧ (∀ o, W.frozen? ⟨m3, o, none⟩ = false) ∧ m3 < W.heap.size) ∧ Below w.heap.size w W) (hb : Below W.heap.size W W') : (W'.cell? ⟨m0, 0, none⟩ = some x00 ∧ W'.cell? ⟨m0, 1, none⟩ = some x01 ∧ (∀ o, W'.frozen? ⟨m0, o, none⟩ = false) ∧ m0 < W'.heap.size) ∧ (W'.cell? ⟨m1, 0, none⟩ = some x10 ∧ W'.cell? ⟨m1, 1, none⟩ = some x11 ∧ W'.cell? ⟨m1, 2, none⟩ = some x12 ∧ (∀ o, W'.frozen? ⟨m1, o, none⟩ = false) ∧ m1 < W'.heap.size) ∧ (W'.cell? ⟨m2, 0, none⟩ = some x20 ∧ W'.cell? ⟨m2, 1, none⟩ = some x21 ∧ W'.cell? ⟨m2, 2, none⟩ = some x22 ∧ W'.cell? ⟨m2, 3, none⟩ = some x23 ∧ W'.cell? ⟨m2, 4, none⟩ = some x24 ∧ W'.cell? ⟨m2, 5, none⟩ = some x25 ∧ (∀ o, W'.frozen? ⟨m2, o, none⟩ = false) ∧ m2 < W'.heap.size) ∧ (W'.cell? ⟨m3, 0, none⟩ = some x30 ∧ W'.cell? ⟨m3, 1, none⟩ = some x31 ∧ (∀ o, W'.frozen? ⟨m3, o, none⟩ = false) ∧ m3 < W'.heap.size) ∧ Below w.heap.size w W' := ⟨bx2_next h.1 hb, bx3_next h.2.1 hb, bx6_next h.2.2.1 hb, bx2_next h.2.2.2.1 hb, below_then h.2.2.2.2 hb⟩
theorem q2362_drew {w W : World} {m0 m1 m2 m3 : Nat} {x00 x01 x10 x11 x12 x20 x21 x22 x23 x24 x25 x30 x31 : Value} (h : (W.cell? ⟨m0, 0, none⟩ = some x00 ∧ W.cell? ⟨m0, 1, none⟩ = some x01 ∧ (∀ o, W.frozen? ⟨m0, o, none⟩ = false) ∧ m0 < W.heap.size) ∧ (W.cell? ⟨m1, 0, none⟩ = some x10 ∧ W.cell? ⟨m1, 1, none⟩ = some x11 ∧ W.cell? ⟨m1, 2, none⟩ = some x12 ∧ (∀ o, W.frozen? ⟨m1, o, none⟩ = false) ∧ m1 < W.heap.size) ∧ (W.cell? ⟨m2, 0, none⟩ = some x20 ∧ W.cell? ⟨m2, 1, none⟩ = some x21 ∧ W.cell? ⟨m2, 2, none⟩ = some x22 ∧ W.cell? ⟨m2, 3, none⟩ = some x23 ∧ W.cell? ⟨m2, 4, none⟩ = some x24 ∧ W.cell? ⟨m2, 5, none⟩ = some x25 ∧ (∀ o, W.frozen? ⟨m2, o, none⟩ = false) ∧ m2 < W.heap.size) ∧ (W.cell? ⟨m3, 0, none⟩ = some x30 ∧ W.cell? ⟨m3, 1, none⟩ = some x31 ∧ (∀ o, W.frozen? ⟨m3, o, none⟩ = false) ∧ m3 < W.heap.size) ∧ Below w.heap.size w W) : (W.drew.cell? ⟨m0, 0, none⟩ = some x00 ∧ W.drew.cell? ⟨m0, 1, none⟩ = some x01 ∧ (∀ o, W.drew.frozen? ⟨m0, o, none⟩ = false) ∧ m0 < W.drew.heap.size) ∧ (W.drew.cell? ⟨m1, 0, none⟩ = some x10 ∧ W.drew.cell? ⟨m1, 1, none⟩ = some x11 ∧ W.drew.cell? ⟨m1, 2, none⟩ = some x12 ∧ (∀ o, W.drew.frozen? ⟨m1, o, none⟩ = false) ∧ m1 < W.drew.heap.size) ∧ (W.drew.cell? ⟨m2, 0, none⟩ = some x20 ∧ W.drew.cell? ⟨m2, 1, none⟩ = some x21 ∧ W.drew.cell? ⟨m2, 2, none⟩ = some x22 ∧ W.drew.cell? ⟨m2, 3, none⟩ = some x23 ∧ W.drew.cell? ⟨m2, 4, none⟩ = some x24 ∧ W.drew.cell? ⟨m2, 5, none⟩ = some x25 ∧ (∀ o, W.drew.frozen? ⟨m2, o, none⟩ = false) ∧ m2 < W.drew.heap.size) ∧ (W.drew.cell? ⟨m3, 0, none⟩ = some x30 ∧ W.drew.cell? ⟨m3, 1, none⟩ = some x31 ∧ (∀ o, W.drew.frozen? ⟨m3, o, none⟩ = false) ∧ m3 < W.drew.heap.size) ∧ Below w.heap.size w W.drew := ⟨bx2_drew h.1, bx3_drew h.2.1, bx6_drew h.2.2.1, bx2_drew h.2.2.2.1, h.2.2.2.2.drew⟩
theorem q2362_alloc {w W : World} {m0 m1 m2 m3 : Nat} {x00 x01 x10 x11 x12 x20 x21 x22 x23 x24 x25 x30 x31 : Value} (h : (W.cell? ⟨m0, 0, none⟩ = some x00 ∧ W.cell? ⟨m0, 1, none⟩ = some x01 ∧ (∀ o, W.frozen? ⟨m0, o, none⟩ = false) ∧ m0 < W.heap.size) ∧ (W.cell? ⟨m1, 0, none⟩ = some x10 ∧ W.cell? ⟨m1, 1, none⟩ = some x11 ∧ W.cell? ⟨m1, 2, none⟩ = some x12 ∧ (∀ o, W.frozen? ⟨m1, o, none⟩ = false) ∧ m1 < W.heap.size) ∧ (W.cell? ⟨m2, 0, none⟩ = some x20 ∧ W.cell? ⟨m2, 1, none⟩ = some x21 ∧ W.cell? ⟨m2, 2, none⟩ = some x22 ∧ W.cell? ⟨m2, 3, none⟩ = some x23 ∧ W.cell? ⟨m2, 4, none⟩ = some x24 ∧ W.cell? ⟨m2, 5, none⟩ = some x25 ∧ (∀ o, W.frozen? ⟨m2, o, none⟩ = false) ∧ m2 < W.heap.size) ∧ (W.cell? ⟨m3, 0, none⟩ = some x30 ∧ W.cell? ⟨m3, 1, none⟩ = some x31 ∧ (∀ o, W.frozen? ⟨m3, o, none⟩ = false) ∧ m3 < W.heap.size) ∧ Below w.heap.size w W) (ob : Obj) : ((W.alloc ob).cell? ⟨m0, 0, none⟩ = some x00 ∧ (W.alloc ob).cell? ⟨m0, 1, none⟩ = some x01 ∧ (∀ o, (W.alloc ob).frozen? ⟨m0, o, none⟩ = false) ∧ m0 < (W.alloc ob).heap.size) ∧ ((W.alloc ob).cell? ⟨m1, 0, none⟩ = some x10 ∧ (W.alloc ob).cell? ⟨m1, 1, none⟩ = some x11 ∧ (W.alloc ob).cell? ⟨m1, 2, none⟩ = some x12 ∧ (∀ o, (W.alloc ob).frozen? ⟨m1, o, none⟩ = false) ∧ m1 < (W.alloc ob).heap.size) ∧ ((W.alloc ob).cell? ⟨m2, 0, none⟩ = some x20 ∧ (W.alloc ob).cell? ⟨m2, 1, none⟩ = some x21 ∧ (W.alloc ob).cell? ⟨m2, 2, none⟩ = some x22 ∧ (W.alloc ob).cell? ⟨m2, 3, none⟩ = some x23 ∧ (W.alloc ob).cell? ⟨m2, 4, none⟩ = some x24 ∧ (W.alloc ob).cell? ⟨m2, 5, none⟩ = some x25 ∧ (∀ o, (W.alloc ob).frozen? ⟨m2, o, none⟩ = false) ∧ m2 < (W.alloc ob).heap.size) ∧ ((W.alloc ob).cell? ⟨m3, 0, none⟩ = some x30 ∧ (W.alloc ob).cell? ⟨m3, 1, none⟩ = some x31 ∧ (∀ o, (W.alloc ob).frozen? ⟨m3, o, none⟩ = false) ∧ m3 < (W.alloc ob).heap.size) ∧ Below w.heap.size w (W.alloc ob) := ⟨bx2_alloc h.1 ob, bx3_alloc h.2.1 ob, bx6_alloc h.2.2.1 ob, bx2_alloc h.2.2.2.1 ob, h.2.2.2.2.alloc h.2.2.2.2.size ob⟩
theorem q2362_store {w W : World} {m0 m1 m2 m3 : Nat} {x00 x01 x10 x11 x12 x20 x21 x22 x23 x24 x25 x30 x31 : Value} (h : (W.cell? ⟨m0, 0, none⟩ = some x00 ∧ W.cell? ⟨m0, 1, none⟩ = some x01 ∧ (∀ o, W.frozen? ⟨m0, o, none⟩ = false) ∧ m0 < W.heap.size) ∧ (W.cell? ⟨m1, 0, none⟩ = some x10 ∧ W.cell? ⟨m1, 1, none⟩ = some x11 ∧ W.cell? ⟨m1, 2, none⟩ = some x12 ∧ (∀ o, W.frozen? ⟨m1, o, none⟩ = false) ∧ m1 < W.heap.size) ∧ (W.cell? ⟨m2, 0, none⟩ = some x20 ∧ W.cell? ⟨m2, 1, none⟩ = some x21 ∧ W.cell? ⟨m2, 2, none⟩ = some x22 ∧ W.cell? ⟨m2, 3, none⟩ = some x23 ∧ W.cell? ⟨m2, 4, none⟩ = some x24 ∧ W.cell? ⟨m2, 5, none⟩ = some x25 ∧ (∀ o, W.frozen? ⟨m2, o, none⟩ = false) ∧ m2 < W.heap.size) ∧ (W.cell? ⟨m3, 0, none⟩ = some x30 ∧ W.cell? ⟨m3, 1, none⟩ = some x31 ∧ (∀ o, W.frozen? ⟨m3, o, none⟩ = false) ∧ m3 < W.heap.size) ∧ Below w.heap.size w W) {p : Addr} {u : Value} (hp : w.heap.size ≤ p.block ∧ m0 ≠ p.block ∧ m1 ≠ p.block ∧ m2 ≠ p.block ∧ m3 ≠ p.block) : ((W.setCell p u).cell? ⟨m0, 0, none⟩ = some x00 ∧ (W.setCell p u).cell? ⟨m0, 1, none⟩ = some x01 ∧ (∀ o, (W.setCell p u).frozen? ⟨m0, o, none⟩ = false) ∧ m0 < (W.setCell p u).heap.size) ∧ ((W.setCell p u).cell? ⟨m1, 0, none⟩ = some x10 ∧ (W.setCell p u).cell? ⟨m1, 1, none⟩ = some x11 ∧ (W.setCell p u).cell? ⟨m1, 2, none⟩ = some x12 ∧ (∀ o, (W.setCell p u).frozen? ⟨m1, o, none⟩ = false) ∧ m1 < (W.setCell p u).heap.size) ∧ ((W.setCell p u).cell? ⟨m2, 0, none⟩ = some x20 ∧ (W.setCell p u).cell? ⟨m2, 1, none⟩ = some x21 ∧ (W.setCell p u).cell? ⟨m2, 2, none⟩ = some x22 ∧ (W.setCell p u).cell? ⟨m2, 3, none⟩ = some x23 ∧ (W.setCell p u).cell? ⟨m2, 4, none⟩ = some x24 ∧ (W.setCell p u).cell? ⟨m2, 5, none⟩ = some x25 ∧ (∀ o, (W.setCell p u).frozen? ⟨m2, o, none⟩ = false) ∧ m2 < (W.setCell p u).heap.size) ∧ ((W.setCell p u).cell? ⟨m3, 0, none⟩ = some x30 ∧ (W.setCell p u).cell? ⟨m3, 1, none⟩ = some x31 ∧ (∀ o, (W.setCell p u).frozen? ⟨m3, o, none⟩ = false) ∧ m3 < (W.setCell p u).heap.size) ∧ Below w.heap.size w (W.setCell p u) := ⟨bx2_far h.1 hp.2.1, bx3_far h.2.1 hp.2.2.1, bx6_far h.2.2.1 hp.2.2.2.1, bx2_far h.2.2.2.1 hp.2.2.2.2, h.2.2.2.2.setCell hp.1 u⟩

/-- which of the two is taken -/
def xsC (okl okh : Bool) (lo : Nat) (half : Int) : Nat := if okl = true ∧ okh = true then (if half < 0 ∨ (half = 0 ∧ lo % 2 = 0) then lo else lo + 1) else if okl = true then lo else lo + 1
/-- the string and the exponent of a decimal -/
def dvS (n : Nat) : ByteArray := dstr (nl n - tz n) (n / 10 ^ tz n)
theorem decV_eq (neg : Bool) (n : Nat) (k : Int) : decV neg n k = .agg #[.bool neg, .string (dvS n), .int .i16 (k + (tz n : Int))] := rfl

set_option maxRecDepth 100000 in
set_option maxHeartbeats 8000000 in
theorem xs_raw (E M x X n d A ns : Nat) (neg G SM : Bool) (C HF T : Int) (hC0 : (C == 0) = false) (hC3 : (C == 3) = false) (hC4 : (C == 4) = false)
    (hA1 : 10000000000000000 ≤ A) (hA2 : A < 100000000000000000) (hT1 : -1800 ≤ T) (hT2 : T ≤ 1800) (hns1 : 1 ≤ ns) (hns2 : ns ≤ 17)
    (HOK : Hid (∀ w, Calls Oajg.prog 17 #[.agg #[.int .u8 (E : Int), .int .u8 (M : Int)]] w fun e w' => e = .returned (.bool true) ∧ Below w.heap.size w w'))
    (HO : Hid (∀ w, Calls Oajg.prog 63 #[.agg #[.int .u8 (E : Int), .int .u8 (M : Int)], .int .u64 (x : Int)] w fun e w' => ∃ a1 k1 c1 a2 k2 c2, e = .returned (.agg #[.int .u64 (X : Int), .bool neg, .int .i8 C, .bool G, .slice a1 k1 c1, .slice a2 k2 c2]) ∧ NatIs 2050 w' (.slice a1 k1 c1) n ∧ NatIs 2050 w' (.slice a2 k2 c2) d ∧ Below w.heap.size w w'))
    (HLG : Hid (∀ a1 k1 c1 a2 k2 c2 w, NatIs 2050 w (.slice a1 k1 c1) n → NatIs 2050 w (.slice a2 k2 c2) d → Calls Oajg.prog 162 #[.agg #[.bool G, .slice a1 k1 c1, .slice a2 k2 c2]] w fun e w' => e = .returned (.int .i64 T) ∧ Below w.heap.size w w'))
    (HFA : Hid (∀ a1 k1 c1 a2 k2 c2 w, NatIs 2050 w (.slice a1 k1 c1) n → NatIs 2050 w (.slice a2 k2 c2) d → Calls Oajg.prog 163 #[.agg #[.bool G, .slice a1 k1 c1, .slice a2 k2 c2], .int .i64 (T - 16)] w fun e w' => e = .returned (.tuple #[.int .i64 (A : Int), .agg #[.int .i8 HF, .bool SM]]) ∧ Below w.heap.size w w'))
    (HCD : Hid (∀ a1 k1 c1 a2 k2 c2 (c : Nat) (k : Int) w, 0 < c → c < 1000000000000000000 → -1900 ≤ k → k ≤ 1900 → Calls Oajg.prog 165 #[.agg #[.int .u8 (E : Int), .int .u8 (M : Int)], .agg #[.int .u64 (X : Int), .bool neg, .int .i8 C, .bool G, .slice a1 k1 c1, .slice a2 k2 c2], .int .i64 (c : Int), .int .i64 k] w fun e w' => e = .returned (.tuple #[decV neg c k, .bool (cdN E M neg c k == X)]) ∧ Below w.heap.size w w'))
    (HNO : Hid (∀ j, 1 ≤ j → j < ns → (cdN E M neg (A / 10 ^ (17 - j)) (T - j + 1) == X) = false ∧ (cdN E M neg (A / 10 ^ (17 - j) + 1) (T - j + 1) == X) = false))
    (HYES : Hid ((cdN E M neg (A / 10 ^ (17 - ns)) (T - ns + 1) == X) = true ∨ (cdN E M neg (A / 10 ^ (17 - ns) + 1) (T - ns + 1) == X) = true)) (w : World) :
    Calls Oajg.prog 111 #[.agg #[.int .u8 (E : Int), .int .u8 (M : Int)], .int .u64 (x : Int)] w fun e w' => e = .returned (decV neg (xsC (cdN E M neg (A / 10 ^ (17 - ns)) (T - ns + 1) == X) (cdN E M neg (A / 10 ^ (17 - ns) + 1) (T - ns + 1) == X) (A / 10 ^ (17 - ns)) (ctH (A % 10 ^ (17 - ns)) (10 ^ (17 - ns)) HF SM)) (T - ns + 1)) ∧ Below w.heap.size w w' := by
  obtain ⟨RV, HRV⟩ : ∃ RV, Hid (decV neg (xsC (cdN E M neg (A / 10 ^ (17 - ns)) (T - ns + 1) == X) (cdN E M neg (A / 10 ^ (17 - ns) + 1) (T - ns + 1) == X) (A / 10 ^ (17 - ns)) (ctH (A % 10 ^ (17 - ns)) (10 ^ (17 - ns)) HF SM)) (T - ns + 1) = RV) := ⟨_, rfl⟩
  rw [HRV.out]
  have hS : (((w.alloc (.cells #[.int .u8 (E : Int), .int .u8 (M : Int)] 23)).alloc (.cells #[.bool false, .string ⟨#[]⟩, .int .i16 0] 69)).cell? ⟨w.heap.size, 0, none⟩ = some (.int .u8 (E : Int)) ∧ ((w.alloc (.cells #[.int .u8 (E : Int), .int .u8 (M : Int)] 23)).alloc (.cells #[.bool false, .string ⟨#[]⟩, .int .i16 0] 69)).cell? ⟨w.heap.size, 1, none⟩ = some (.int .u8 (M : Int)) ∧ (∀ o, ((w.alloc (.cells #[.int .u8 (E : Int), .int .u8 (M : Int)] 23)).alloc (.cells #[.bool false, .string ⟨#[]⟩, .int .i16 0] 69)).frozen? ⟨w.heap.size, o, none⟩ = false) ∧ w.heap.size < ((w.alloc (.cells #[.int .u8 (E : Int), .int .u8 (M : Int)] 23)).alloc (.cells #[.bool false, .string ⟨#[]⟩, .int .i16 0] 69)).heap.size) ∧ (((w.alloc (.cells #[.int .u8 (E : Int), .int .u8 (M : Int)] 23)).alloc (.cells #[.bool false, .string ⟨#[]⟩, .int .i16 0] 69)).cell? ⟨(w.heap.size + 1), 0, none⟩ = some (.bool false) ∧ ((w.alloc (.cells #[.int .u8 (E : Int), .int .u8 (M : Int)] 23)).alloc (.cells #[.bool false, .string ⟨#[]⟩, .int .i16 0] 69)).cell? ⟨(w.heap.size + 1), 1, none⟩ = some (.string ⟨#[]⟩) ∧ ((w.alloc (.cells #[.int .u8 (E : Int), .int .u8 (M : Int)] 23)).alloc (.cells #[.bool false, .string ⟨#[]⟩, .int .i16 0] 69)).cell? ⟨(w.heap.size + 1), 2, none⟩ = some (.int .i16 0) ∧ (∀ o, ((w.alloc (.cells #[.int .u8 (E : Int), .int .u8 (M : Int)] 23)).alloc (.cells #[.bool false, .string ⟨#[]⟩, .int .i16 0] 69)).frozen? ⟨(w.heap.size + 1), o, none⟩ = false) ∧ (w.heap.size + 1) < ((w.alloc (.cells #[.int .u8 (E : Int), .int .u8 (M : Int)] 23)).alloc (.cells #[.bool false, .string ⟨#[]⟩, .int .i16 0] 69)).heap.size) ∧ Below w.heap.size w ((w.alloc (.cells #[.int .u8 (E : Int), .int .u8 (M : Int)] 23)).alloc (.cells #[.bool false, .string ⟨#[]⟩, .int .i16 0] 69)) := ⟨bx2_alloc (bx2_made w (m := w.heap.size) _ _ 23 rfl) _, bx3_made _ (m := w.heap.size + 1) _ _ _ 69 (by simp), ((Below.refl _ _).alloc (Nat.le_refl _) _).alloc (by simp) _⟩
  go_enter Oajg.func111, Oajg.ntmps111
  go_wp2_with fail
  refine Calls.mono (HOK.out _) ?_
  rintro _ w1 ⟨rfl, hb⟩
  replace hS := q23z_next hS hb
  clear hb HOK
  go_wp2_with fail
  refine Calls.mono (HO.out _) ?_
  rintro _ w2 ⟨a1, k1, c1, a2, k2, c2, rfl, hN1, hN2, hb⟩
  replace hS := q23z_next hS hb
  have hob : w.heap.size + 1 < w2.heap.size := hS.2.1.2.2.2.2
  have hSa := q23z_alloc hS (.cells #[.int .u64 (X : Int), .bool neg, .int .i8 C, .bool G, .slice a1 k1 c1, .slice a2 k2 c2] 98)
  have hOb := bx6_made w2 (m := w2.heap.size) (.int .u64 (X : Int)) (.bool neg) (.int .i8 C) (.bool G) (.slice a1 k1 c1) (.slice a2 k2 c2) 98 rfl
  have HN1 := hid_mk (hN1.kp ((Kp.refl w2).alloc (.cells #[.int .u64 (X : Int), .bool neg, .int .i8 C, .bool G, .slice a1 k1 c1, .slice a2 k2 c2] 98)))
  have HN2 := hid_mk (hN2.kp ((Kp.refl w2).alloc (.cells #[.int .u64 (X : Int), .bool neg, .int .i8 C, .bool G, .slice a1 k1 c1, .slice a2 k2 c2] 98)))
  clear hN1 hN2 hb HO hS
  go_wp2_with fail
  generalize hw3 : w2.alloc (.cells #[.int .u64 (X : Int), .bool neg, .int .i8 C, .bool G, .slice a1 k1 c1, .slice a2 k2 c2] 98) = w3 at *
  clear hw3
  generalize w2.heap.size = ob at *
  have hS : (w3.cell? ⟨w.heap.size, 0, none⟩ = some (.int .u8 (E : Int)) ∧ w3.cell? ⟨w.heap.size, 1, none⟩ = some (.int .u8 (M : Int)) ∧ (∀ o, w3.frozen? ⟨w.heap.size, o, none⟩ = false) ∧ w.heap.size < w3.heap.size) ∧ (w3.cell? ⟨(w.heap.size + 1), 0, none⟩ = some (.bool false) ∧ w3.cell? ⟨(w.heap.size + 1), 1, none⟩ = some (.string ⟨#[]⟩) ∧ w3.cell? ⟨(w.heap.size + 1), 2, none⟩ = some (.int .i16 0) ∧ (∀ o, w3.frozen? ⟨(w.heap.size + 1), o, none⟩ = false) ∧ (w.heap.size + 1) < w3.heap.size) ∧ (w3.cell? ⟨ob, 0, none⟩ = some (.int .u64 (X : Int)) ∧ w3.cell? ⟨ob, 1, none⟩ = some (.bool neg) ∧ w3.cell? ⟨ob, 2, none⟩ = some (.int .i8 C) ∧ w3.cell? ⟨ob, 3, none⟩ = some (.bool G) ∧ w3.cell? ⟨ob, 4, none⟩ = some (.slice a1 k1 c1) ∧ w3.cell? ⟨ob, 5, none⟩ = some (.slice a2 k2 c2) ∧ (∀ o, w3.frozen? ⟨ob, o, none⟩ = false) ∧ ob < w3.heap.size) ∧ Below w.heap.size w w3 := ⟨hSa.1, hSa.2.1, hOb, hSa.2.2⟩
  clear hSa hOb
  refine Calls.mono (HLG.out _ _ _ _ _ _ _ HN1.out HN2.out) ?_
  rintro _ w4 ⟨rfl, hb⟩
  replace hS := q236_next hS hb
  replace HN1 := hid_mk (HN1.out.kept hb)
  replace HN2 := hid_mk (HN2.out.kept hb)
  clear hb HLG
  go_wp2_with fail
  refine Calls.mono (HFA.out _ _ _ _ _ _ _ HN1.out HN2.out) ?_
  rintro _ w5 ⟨rfl, hb⟩
  replace hS := q236_next hS hb
  clear hb HFA HN1 HN2
  have hrb : ob < w5.heap.size := hS.2.2.1.2.2.2.2.2.2.2
  have hSa := q236_alloc hS (.cells #[.int .i8 HF, .bool SM] 152)
  have hRb := bx2_made w5 (m := w5.heap.size) (.int .i8 HF) (.bool SM) 152 rfl
  clear hS
  go_wp2_with fail
  generalize w5.alloc (.cells #[.int .i8 HF, .bool SM] 152) = w6 at *
  generalize w5.heap.size = rb at *
  have hS : (w6.cell? ⟨w.heap.size, 0, none⟩ = some (.int .u8 (E : Int)) ∧ w6.cell? ⟨w.heap.size, 1, none⟩ = some (.int .u8 (M : Int)) ∧ (∀ o, w6.frozen? ⟨w.heap.size, o, none⟩ = false) ∧ w.heap.size < w6.heap.size) ∧ (w6.cell? ⟨(w.heap.size + 1), 0, none⟩ = some (.bool false) ∧ w6.cell? ⟨(w.heap.size + 1), 1, none⟩ = some (.string ⟨#[]⟩) ∧ w6.cell? ⟨(w.heap.size + 1), 2, none⟩ = some (.int .i16 0) ∧ (∀ o, w6.frozen? ⟨(w.heap.size + 1), o, none⟩ = false) ∧ (w.heap.size + 1) < w6.heap.size) ∧ (w6.cell? ⟨ob, 0, none⟩ = some (.int .u64 (X : Int)) ∧ w6.cell? ⟨ob, 1, none⟩ = some (.bool neg) ∧ w6.cell? ⟨ob, 2, none⟩ = some (.int .i8 C) ∧ w6.cell? ⟨ob, 3, none⟩ = some (.bool G) ∧ w6.cell? ⟨ob, 4, none⟩ = some (.slice a1 k1 c1) ∧ w6.cell? ⟨ob, 5, none⟩ = some (.slice a2 k2 c2) ∧ (∀ o, w6.frozen? ⟨ob, o, none⟩ = false) ∧ ob < w6.heap.size) ∧ (w6.cell? ⟨rb, 0, none⟩ = some (.int .i8 HF) ∧ w6.cell? ⟨rb, 1, none⟩ = some (.bool SM) ∧ (∀ o, w6.frozen? ⟨rb, o, none⟩ = false) ∧ rb < w6.heap.size) ∧ Below w.heap.size w w6 := ⟨hSa.1, hSa.2.1, hSa.2.2.1, hRb, hSa.2.2.2⟩
  clear hSa hRb
  go_loopw [9, 10] (fun c9 c10 wr => ∃ nn : Nat, c10 = .int .i64 (nn : Int) ∧ c9 = .int .i64 ((10 ^ (17 - nn) : Nat) : Int) ∧ 1 ≤ nn ∧ nn ≤ ns ∧ ((wr.cell? ⟨w.heap.size, 0, none⟩ = some (.int .u8 (E : Int)) ∧ wr.cell? ⟨w.heap.size, 1, none⟩ = some (.int .u8 (M : Int)) ∧ (∀ o, wr.frozen? ⟨w.heap.size, o, none⟩ = false) ∧ w.heap.size < wr.heap.size) ∧ (wr.cell? ⟨(w.heap.size + 1), 0, none⟩ = some (.bool false) ∧ wr.cell? ⟨(w.heap.size + 1), 1, none⟩ = some (.string ⟨#[]⟩) ∧ wr.cell? ⟨(w.heap.size + 1), 2, none⟩ = some (.int .i16 0) ∧ (∀ o, wr.frozen? ⟨(w.heap.size + 1), o, none⟩ = false) ∧ (w.heap.size + 1) < wr.heap.size) ∧ (wr.cell? ⟨ob, 0, none⟩ = some (.int .u64 (X : Int)) ∧ wr.cell? ⟨ob, 1, none⟩ = some (.bool neg) ∧ wr.cell? ⟨ob, 2, none⟩ = some (.int .i8 C) ∧ wr.cell? ⟨ob, 3, none⟩ = some (.bool G) ∧ wr.cell? ⟨ob, 4, none⟩ = some (.slice a1 k1 c1) ∧ wr.cell? ⟨ob, 5, none⟩ = some (.slice a2 k2 c2) ∧ (∀ o, wr.frozen? ⟨ob, o, none⟩ = false) ∧ ob < wr.heap.size) ∧ (wr.cell? ⟨rb, 0, none⟩ = some (.int .i8 HF) ∧ wr.cell? ⟨rb, 1, none⟩ = some (.bool SM) ∧ (∀ o, wr.frozen? ⟨rb, o, none⟩ = false) ∧ rb < wr.heap.size) ∧ Below w.heap.size w wr)) (fun _ c10 _ => ns + 1 - (intOf c10).toNat)
  case atStart => exact ⟨1, rfl, rfl, Nat.le_refl _, hns1, hS⟩
  case round =>
    clear hS
    obtain ⟨nn, rfl, rfl, hn1, hn2, hS⟩ := hrel
    obtain ⟨p, hp⟩ : ∃ p, p = 10 ^ (17 - nn) := ⟨_, rfl⟩
    rw [← hp]
    have hp0 : 0 < p := by rw [hp]; exact t10 _
    have hp16 : p ≤ 10000000000000000 := by
      rw [hp]; exact Nat.pow_le_pow_right (n := 10) (j := 16) (by decide) (by omega)
    obtain ⟨lo, hlo⟩ : ∃ lo, lo = A / p := ⟨_, rfl⟩
    obtain ⟨rm, hrm⟩ : ∃ rm, rm = A % p := ⟨_, rfl⟩
    have hloA : lo ≤ A := by rw [hlo]; exact Nat.div_le_self _ _
    have hlo1 : 1 ≤ lo := by rw [hlo]; exact (Nat.le_div_iff_mul_le hp0).2 (by omega)
    have hrmp : rm < p := by rw [hrm]; exact Nat.mod_lt _ hp0
    obtain ⟨HV, HHV⟩ : ∃ HV, Hid (ctH rm p HF SM = HV) := ⟨_, rfl⟩
    have HCR : Hid (∀ w, Calls Oajg.prog 164 #[.int .i64 (rm : Int), .int .i64 (p : Int), .agg #[.int .i8 HF, .bool SM]] w fun x w' => ∃ sm, x = .returned (.agg #[.int .i8 HV, .bool sm]) ∧ Below w.heap.size w w') := fun w => by rw [← HHV.out]; exact cutRest_ok rm p HF SM (by omega) (by omega) w
    have j1 : (A : Int) / (p : Int) = (lo : Int) := by rw [hlo]; exact (Int.natCast_ediv _ _).symm
    have j2 : (A : Int) % (p : Int) = (rm : Int) := by rw [hrm]; exact (Int.natCast_emod _ _).symm
    have j4 : (A : Int).tdiv (p : Int) = (lo : Int) := by rw [Int.tdiv_eq_ediv_of_nonneg (by omega)]; exact j1
    have j5 : (A : Int).tmod (p : Int) = (rm : Int) := by rw [Int.tmod_eq_emod_of_nonneg (by omega)]; exact j2
    have j6 : ¬ ((p : Int) = 0) := by omega
    have j7 : IntKind.i64.wrap (lo : Int) = (lo : Int) := by rw [IntKind.wrap_i64]; omega
    have j8 : ¬ p = 0 := by omega
    have j3 : ((p : Int) == 0) = false := by rw [beq_eq_false_iff_ne]; omega
    have kn : ¬ (17 < (nn : Int)) := by omega
    have kn2 : (nn : Int) ≤ 17 := by omega
    have hpn : nn < 17 → p / 10 = 10 ^ (17 - (nn + 1)) := by
      intro h
      rw [hp, show 17 - nn = 17 - (nn + 1) + 1 from by omega, Nat.pow_succ, Nat.mul_div_cancel _ (by decide)]
    have HPN := hid_mk hpn
    clear hpn
    have HP := hid_mk hp
    have HLO := hid_mk hlo
    have HRM := hid_mk hrm
    clear hp hlo hrm
    go_wp2_with fail
    have hSw0 := hS.2.2.2.1.2.2.2
    generalize hw0 : wr = w0 at *
    clear hw0
    go_cut [12, 13] (fun s12 s13 W => ∃ q sm, s12 = .int .i64 (lo : Int) ∧ s13 = .pointer (some ⟨q, 0, none⟩) ∧ w.heap.size + 1 < q ∧ ob ≠ q ∧ (W.cell? ⟨q, 0, none⟩ = some (.int .i8 HV) ∧ W.cell? ⟨q, 1, none⟩ = some (.bool sm) ∧ (∀ o, W.frozen? ⟨q, o, none⟩ = false) ∧ q < W.heap.size) ∧ ((W.cell? ⟨w.heap.size, 0, none⟩ = some (.int .u8 (E : Int)) ∧ W.cell? ⟨w.heap.size, 1, none⟩ = some (.int .u8 (M : Int)) ∧ (∀ o, W.frozen? ⟨w.heap.size, o, none⟩ = false) ∧ w.heap.size < W.heap.size) ∧ (W.cell? ⟨(w.heap.size + 1), 0, none⟩ = some (.bool false) ∧ W.cell? ⟨(w.heap.size + 1), 1, none⟩ = some (.string ⟨#[]⟩) ∧ W.cell? ⟨(w.heap.size + 1), 2, none⟩ = some (.int .i16 0) ∧ (∀ o, W.frozen? ⟨(w.heap.size + 1), o, none⟩ = false) ∧ (w.heap.size + 1) < W.heap.size) ∧ (W.cell? ⟨ob, 0, none⟩ = some (.int .u64 (X : Int)) ∧ W.cell? ⟨ob, 1, none⟩ = some (.bool neg) ∧ W.cell? ⟨ob, 2, none⟩ = some (.int .i8 C) ∧ W.cell? ⟨ob, 3, none⟩ = some (.bool G) ∧ W.cell? ⟨ob, 4, none⟩ = some (.slice a1 k1 c1) ∧ W.cell? ⟨ob, 5, none⟩ = some (.slice a2 k2 c2) ∧ (∀ o, W.frozen? ⟨ob, o, none⟩ = false) ∧ ob < W.heap.size) ∧ (W.cell? ⟨rb, 0, none⟩ = some (.int .i8 HF) ∧ W.cell? ⟨rb, 1, none⟩ = some (.bool SM) ∧ (∀ o, W.frozen? ⟨rb, o, none⟩ = false) ∧ rb < W.heap.size) ∧ Below w.heap.size w W))
    case first =>
      go_region_held3 (fun W => (W.cell? ⟨w.heap.size, 0, none⟩ = some (.int .u8 (E : Int)) ∧ W.cell? ⟨w.heap.size, 1, none⟩ = some (.int .u8 (M : Int)) ∧ (∀ o, W.frozen? ⟨w.heap.size, o, none⟩ = false) ∧ w.heap.size < W.heap.size) ∧ (W.cell? ⟨(w.heap.size + 1), 0, none⟩ = some (.bool false) ∧ W.cell? ⟨(w.heap.size + 1), 1, none⟩ = some (.string ⟨#[]⟩) ∧ W.cell? ⟨(w.heap.size + 1), 2, none⟩ = some (.int .i16 0) ∧ (∀ o, W.frozen? ⟨(w.heap.size + 1), o, none⟩ = false) ∧ (w.heap.size + 1) < W.heap.size) ∧ (W.cell? ⟨ob, 0, none⟩ = some (.int .u64 (X : Int)) ∧ W.cell? ⟨ob, 1, none⟩ = some (.bool neg) ∧ W.cell? ⟨ob, 2, none⟩ = some (.int .i8 C) ∧ W.cell? ⟨ob, 3, none⟩ = some (.bool G) ∧ W.cell? ⟨ob, 4, none⟩ = some (.slice a1 k1 c1) ∧ W.cell? ⟨ob, 5, none⟩ = some (.slice a2 k2 c2) ∧ (∀ o, W.frozen? ⟨ob, o, none⟩ = false) ∧ ob < W.heap.size) ∧ (W.cell? ⟨rb, 0, none⟩ = some (.int .i8 HF) ∧ W.cell? ⟨rb, 1, none⟩ = some (.bool SM) ∧ (∀ o, W.frozen? ⟨rb, o, none⟩ = false) ∧ rb < W.heap.size) ∧ Below w.heap.size w W)
        ((repeat' (first | with_reducible assumption | with_reducible refine q2362_drew ?_ | with_reducible refine q2362_alloc ?_ _ | with_reducible refine q2362_store ?_ ?_ | (simp only [World.size_alloc, World.size_drew, World.size_setCell]; omega) | omega)))
        ((go_at_call 164; (with_reducible refine Calls.mono (HCR.out _) ?_); rintro _ wa ⟨sm, rfl, hb⟩; have hSwa := q2362_next (by with_reducible assumption) hb; have hnwa := hSwa.2.2.2.2.size; have hznwa := hb.size; obtain ⟨hcwa, hfwa, hzwa⟩ := bfacts2 hb; (try simp only [World.size_alloc, World.size_drew] at hcwa hfwa hzwa hznwa); (try have hqwaw0 : w0.heap.size < wa.heap.size := by omega); clear hb))
      all_goals go_wp2_with fail
      all_goals go_meet
      all_goals refine ⟨_, sm, rfl, rfl, ?_, ?_, ⟨?_, ?_, ?_, ?_⟩, ?_⟩
      all_goals try (first
        | with_reducible assumption
        | omega
        | (simp only [World.size_alloc, World.size_drew, World.size_setCell]; omega)
        | (simp [*, go_sem]; done)
        | (intro o; simp [*, go_sem]; done))
    case rest =>
      obtain ⟨q, sm, rfl, rfl, hq1, hq2, hQ, hS1⟩ := hcut
      clear hS hSw0 HCR
      obtain ⟨kk, hkk⟩ : ∃ kk : Int, kk = T - (nn : Int) + 1 := ⟨_, rfl⟩
      have HKK := hid_mk hkk
      have HC1 := hid_mk (HCD.out a1 k1 c1 a2 k2 c2 lo kk · (by omega) (by omega) (by omega) (by omega))
      have HC2 := hid_mk (HCD.out a1 k1 c1 a2 k2 c2 (lo + 1) kk · (by omega) (by omega) (by omega) (by omega))
      simp only [decV_eq] at HC1 HC2
      obtain ⟨okl, HOL⟩ : ∃ b, Hid ((cdN E M neg lo kk == X) = b) := ⟨_, rfl⟩
      obtain ⟨okh, HOH⟩ : ∃ b, Hid ((cdN E M neg (lo + 1) kk == X) = b) := ⟨_, rfl⟩
      rw [HOL.out] at HC1
      rw [HOH.out] at HC2
      rw [← hkk]
      clear hkk
      obtain ⟨Dl, HDl⟩ : ∃ b, Hid (dvS lo = b) := ⟨_, rfl⟩
      obtain ⟨Dh, HDh⟩ : ∃ b, Hid (dvS (lo + 1) = b) := ⟨_, rfl⟩
      obtain ⟨Vl, HVl⟩ : ∃ b : Int, Hid (kk + (tz lo : Int) = b) := ⟨_, rfl⟩
      obtain ⟨Vh, HVh⟩ : ∃ b : Int, Hid (kk + (tz (lo + 1) : Int) = b) := ⟨_, rfl⟩
      rw [HDl.out, HVl.out] at HC1
      rw [HDh.out, HVh.out] at HC2
      have HRL : Hid (nn = ns → RV = decV neg (xsC okl okh lo HV) kk) := by
        intro he
        rw [← HRV.out, ← he, ← HP.out, ← HLO.out, ← HRM.out, HHV.out, ← HKK.out, HOL.out, HOH.out]
      have HND : Hid (nn < ns → okl = false ∧ okh = false) := by
        intro he
        have := HNO.out nn hn1 he
        rw [← HP.out, ← HLO.out, ← HKK.out, HOL.out, HOH.out] at this
        exact this
      have HYD : Hid (nn = ns → okl = true ∨ okh = true) := by
        intro he
        have := HYES.out
        rw [← he, ← HP.out, ← HLO.out, ← HKK.out, HOL.out, HOH.out] at this
        exact this
      have HN0 := HNO
      clear HNO HYES HCD HRV
      have l1 : IntKind.i64.wrap ((lo : Int) + 1) = ((lo + 1 : Nat) : Int) := by rw [IntKind.wrap_i64]; omega
      have l1' : ((lo + 1 : Nat) : Int) = (lo : Int) + 1 := by omega
      rw [l1'] at HC2
      go_wp2_with fail
      refine Calls.mono (HC1.out _) ?_
      rintro _ w7 ⟨rfl, hb⟩
      replace hS1 := q2362_next hS1 hb
      replace hQ := bx2_next hQ hb
      have hl1 : w.heap.size + 1 < w7.heap.size := hS1.2.1.2.2.2.2
      have hSa := q2362_alloc hS1 (.cells #[.bool neg, .string Dl, .int .i16 Vl] 69)
      have hQa := bx2_alloc hQ (.cells #[.bool neg, .string Dl, .int .i16 Vl] 69)
      have hL := bx3_made w7 (m := w7.heap.size) (.bool neg) (.string Dl) (.int .i16 Vl) 69 rfl
      clear hb HC1 hS1 hQ
      go_wp2_with fail
      refine Calls.mono (HC2.out _) ?_
      rintro _ w8 ⟨rfl, hb⟩
      replace hSa := q2362_next hSa hb
      replace hQa := bx2_next hQa hb
      replace hL := bx3_next hL hb
      have hSb := q2362_alloc hSa (.cells #[.bool neg, .string Dh, .int .i16 Vh] 69)
      have hl2 : w.heap.size + 1 < w8.heap.size := hSa.2.1.2.2.2.2
      have hl7 : w7.heap.size < w8.heap.size := hL.2.2.2.2
      clear hb HC2
      have hR := hSa.2.1
      have HB := hid_mk hSa.2.2.2.2
      have HSb := hid_mk hSb
      have n1 : w7.heap.size ≠ w.heap.size + 1 := by omega
      have n2 : w8.heap.size ≠ w.heap.size + 1 := by omega
      have n3 : q ≠ w.heap.size + 1 := by omega
      clear hSb
      cases okl with
      | true =>
        cases okh with
        | true =>
          by_cases hv1 : HV < 0
          · have v1 : decide (HV < 0) = true := decide_eq_true hv1
            have HE : nn = ns := by
              rcases Nat.lt_or_ge nn ns with hc | hc
              · have := HND.out hc; simp at this
              · omega
            have HRR : Hid (RV = .agg #[.bool neg, .string Dl, .int .i16 Vl]) := by
              have h1 : RV = decV neg (lo) kk := by rw [HRL.out HE]; congr 1; unfold xsC; rw [if_pos ⟨rfl, rfl⟩, if_pos (Or.inl hv1)]
              rw [decV_eq, HDl.out, HVl.out] at h1; exact h1
            clear HE HRL HND HYD
            go_wp2_with fail
            refine bodyPost_ret (v := .agg #[.bool neg, .string Dl, .int .i16 Vl]) (by simp [results, Oajg.results111, go_sem, hR]) rfl ⟨by rw [HRR.out], ?_⟩
            exact (((HB.out.setCell (Nat.le_succ _) _).setCell (Nat.le_succ _) _).setCell (Nat.le_succ _) _).alloc (by simp only [World.size_setCell]; omega) _
          · have v1 : decide (HV < 0) = false := decide_eq_false hv1
            by_cases hv2 : HV = 0
            · have v2 : (HV == 0) = true := by rw [hv2]; rfl
              by_cases hv3 : lo % 2 = 0
              · have v3 : ((lo : Int) % 2 == 0) = true := by rw [beq_iff_eq]; omega
                have HE : nn = ns := by
                  rcases Nat.lt_or_ge nn ns with hc | hc
                  · have := HND.out hc; simp at this
                  · omega
                have HRR : Hid (RV = .agg #[.bool neg, .string Dl, .int .i16 Vl]) := by
                  have h1 : RV = decV neg (lo) kk := by rw [HRL.out HE]; congr 1; unfold xsC; rw [if_pos ⟨rfl, rfl⟩, if_pos (Or.inr ⟨hv2, hv3⟩)]
                  rw [decV_eq, HDl.out, HVl.out] at h1; exact h1
                clear HE HRL HND HYD
                go_wp2_with fail
                refine bodyPost_ret (v := .agg #[.bool neg, .string Dl, .int .i16 Vl]) (by simp [results, Oajg.results111, go_sem, hR]) rfl ⟨by rw [HRR.out], ?_⟩
                exact (((HB.out.setCell (Nat.le_succ _) _).setCell (Nat.le_succ _) _).setCell (Nat.le_succ _) _).alloc (by simp only [World.size_setCell]; omega) _
              · have v3 : ((lo : Int) % 2 == 0) = false := by rw [beq_eq_false_iff_ne]; omega
                have HE : nn = ns := by
                  rcases Nat.lt_or_ge nn ns with hc | hc
                  · have := HND.out hc; simp at this
                  · omega
                have HRR : Hid (RV = .agg #[.bool neg, .string Dh, .int .i16 Vh]) := by
                  have h1 : RV = decV neg (lo + 1) kk := by rw [HRL.out HE]; congr 1; unfold xsC; rw [if_pos ⟨rfl, rfl⟩, if_neg (by rintro (h | h); exact hv1 h; exact hv3 h.2)]
                  rw [decV_eq, HDh.out, HVh.out] at h1; exact h1
                clear HE HRL HND HYD
                go_wp2_with fail
                refine bodyPost_ret (v := .agg #[.bool neg, .string Dh, .int .i16 Vh]) (by simp [results, Oajg.results111, go_sem, hR]) rfl ⟨by rw [HRR.out], ?_⟩
                exact (((HB.out.setCell (Nat.le_succ _) _).setCell (Nat.le_succ _) _).setCell (Nat.le_succ _) _).alloc (by simp only [World.size_setCell]; omega) _
            · have v2 : (HV == 0) = false := by rw [beq_eq_false_iff_ne]; exact hv2
              have HE : nn = ns := by
                rcases Nat.lt_or_ge nn ns with hc | hc
                · have := HND.out hc; simp at this
                · omega
              have HRR : Hid (RV = .agg #[.bool neg, .string Dh, .int .i16 Vh]) := by
                have h1 : RV = decV neg (lo + 1) kk := by rw [HRL.out HE]; congr 1; unfold xsC; rw [if_pos ⟨rfl, rfl⟩, if_neg (by rintro (h | h); exact hv1 h; exact hv2 h.1)]
                rw [decV_eq, HDh.out, HVh.out] at h1; exact h1
              clear HE HRL HND HYD
              go_wp2_with fail
              refine bodyPost_ret (v := .agg #[.bool neg, .string Dh, .int .i16 Vh]) (by simp [results, Oajg.results111, go_sem, hR]) rfl ⟨by rw [HRR.out], ?_⟩
              exact (((HB.out.setCell (Nat.le_succ _) _).setCell (Nat.le_succ _) _).setCell (Nat.le_succ _) _).alloc (by simp only [World.size_setCell]; omega) _
        | false =>
          have HE : nn = ns := by
            rcases Nat.lt_or_ge nn ns with hc | hc
            · have := HND.out hc; simp at this
            · omega
          have HRR : Hid (RV = .agg #[.bool neg, .string Dl, .int .i16 Vl]) := by
            have h1 : RV = decV neg (lo) kk := (HRL.out HE).trans rfl
            rw [decV_eq, HDl.out, HVl.out] at h1; exact h1
          clear HE HRL HND HYD
          go_wp2_with fail
          refine bodyPost_ret (v := .agg #[.bool neg, .string Dl, .int .i16 Vl]) (by simp [results, Oajg.results111, go_sem, hR]) rfl ⟨by rw [HRR.out], ?_⟩
          exact (((HB.out.setCell (Nat.le_succ _) _).setCell (Nat.le_succ _) _).setCell (Nat.le_succ _) _).alloc (by simp only [World.size_setCell]; omega) _
      | false =>
        cases okh with
        | true =>
          have HE : nn = ns := by
            rcases Nat.lt_or_ge nn ns with hc | hc
            · have := HND.out hc; simp at this
            · omega
          have HRR : Hid (RV = .agg #[.bool neg, .string Dh, .int .i16 Vh]) := by
            have h1 : RV = decV neg (lo + 1) kk := (HRL.out HE).trans rfl
            rw [decV_eq, HDh.out, HVh.out] at h1; exact h1
          clear HE HRL HND HYD
          go_wp2_with fail
          refine bodyPost_ret (v := .agg #[.bool neg, .string Dh, .int .i16 Vh]) (by simp [results, Oajg.results111, go_sem, hR]) rfl ⟨by rw [HRR.out], ?_⟩
          exact (((HB.out.setCell (Nat.le_succ _) _).setCell (Nat.le_succ _) _).setCell (Nat.le_succ _) _).alloc (by simp only [World.size_setCell]; omega) _
        | false =>
          have hlt : nn < ns := by
            rcases Nat.lt_or_ge nn ns with hc | hc
            · exact hc
            · have := HYD.out (by omega)
              simp at this
          have HPP := hid_mk (HPN.out (by omega))
          clear HRL HND HYD
          go_wp2_with fail
          go_roundw
          case rel => exact ⟨nn + 1, by go_num, by rw [← HPP.out]; rfl, by omega, by omega, HSb.out⟩
          case measure => simp [intOf]; omega

end Go.Proofs.Ygcoaj
