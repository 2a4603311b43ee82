/-
  PLAIN: boxes of k cells in memory, and the worlds behind them.
-/
import Derived.Test.YgcoajIe4
import Derived.Deep.DeepCutAuto
set_option linter.unusedVariables false
set_option linter.unusedSimpArgs false
namespace Go.Proofs.Ygcoaj
open Go.RowKit

theorem bx2_next {W W' : World} {n : Nat} {u0 u1 : Value} (h : W.cell? ⟨n, 0, none⟩ = some u0 ∧ W.cell? ⟨n, 1, none⟩ = some u1 ∧ (∀ o, W.frozen? ⟨n, o, none⟩ = false) ∧ n < W.heap.size) (hb : Below W.heap.size W W') :
    W'.cell? ⟨n, 0, none⟩ = some u0 ∧ W'.cell? ⟨n, 1, none⟩ = some u1 ∧ (∀ o, W'.frozen? ⟨n, o, none⟩ = false) ∧ n < W'.heap.size :=
  ⟨(hb.cell (p := ⟨n, 0, none⟩) h.2.2.2).trans h.1, (hb.cell (p := ⟨n, 1, none⟩) h.2.2.2).trans h.2.1,
   fun o => (hb.frozen (p := ⟨n, o, none⟩) h.2.2.2).trans (h.2.2.1 o), Nat.lt_of_lt_of_le h.2.2.2 hb.size⟩
theorem bx2_drew {W : World} {n : Nat} {u0 u1 : Value} (h : W.cell? ⟨n, 0, none⟩ = some u0 ∧ W.cell? ⟨n, 1, none⟩ = some u1 ∧ (∀ o, W.frozen? ⟨n, o, none⟩ = false) ∧ n < W.heap.size) :
    W.drew.cell? ⟨n, 0, none⟩ = some u0 ∧ W.drew.cell? ⟨n, 1, none⟩ = some u1 ∧ (∀ o, W.drew.frozen? ⟨n, o, none⟩ = false) ∧ n < W.drew.heap.size := h
theorem bx2_far {W : World} {n : Nat} {u0 u1 : Value} (h : W.cell? ⟨n, 0, none⟩ = some u0 ∧ W.cell? ⟨n, 1, none⟩ = some u1 ∧ (∀ o, W.frozen? ⟨n, o, none⟩ = false) ∧ n < W.heap.size) {p : Addr} {u : Value} (hp : n ≠ p.block) :
    (W.setCell p u).cell? ⟨n, 0, none⟩ = some u0 ∧ (W.setCell p u).cell? ⟨n, 1, none⟩ = some u1 ∧ (∀ o, (W.setCell p u).frozen? ⟨n, o, none⟩ = false) ∧ n < (W.setCell p u).heap.size := by
  have e : ∀ o, (W.setCell p u).cell? ⟨n, o, none⟩ = W.cell? ⟨n, o, none⟩ := fun o => World.cell?_of_block (Below.heap_setCell W p u n hp)
  have g : ∀ o, (W.setCell p u).frozen? ⟨n, o, none⟩ = W.frozen? ⟨n, o, none⟩ := fun o => World.frozen?_of_block (Below.heap_setCell W p u n hp)
  exact ⟨(e 0).trans h.1, (e 1).trans h.2.1, fun o => (g o).trans (h.2.2.1 o), by rw [World.size_setCell]; exact h.2.2.2⟩
theorem bx2_alloc {W : World} {n : Nat} {u0 u1 : Value} (h : W.cell? ⟨n, 0, none⟩ = some u0 ∧ W.cell? ⟨n, 1, none⟩ = some u1 ∧ (∀ o, W.frozen? ⟨n, o, none⟩ = false) ∧ n < W.heap.size) (ob : Obj) :
    (W.alloc ob).cell? ⟨n, 0, none⟩ = some u0 ∧ (W.alloc ob).cell? ⟨n, 1, none⟩ = some u1 ∧ (∀ o, (W.alloc ob).frozen? ⟨n, o, none⟩ = false) ∧ n < (W.alloc ob).heap.size := bx2_next h ((Below.refl _ _).alloc (Nat.le_refl _) ob)
theorem bx2_made (W : World) {m : Nat} (u0 u1 : Value) (t : Nat) (hm : W.heap.size = m) :
    (W.alloc (.cells #[u0, u1] t)).cell? ⟨m, 0, none⟩ = some u0 ∧ (W.alloc (.cells #[u0, u1] t)).cell? ⟨m, 1, none⟩ = some u1 ∧ (∀ o, (W.alloc (.cells #[u0, u1] t)).frozen? ⟨m, o, none⟩ = false) ∧ m < (W.alloc (.cells #[u0, u1] t)).heap.size := by
  subst hm
  exact ⟨by simp [go_sem], by simp [go_sem], fun o => by simp [go_sem], by simp⟩

theorem bx3_next {W W' : World} {n : Nat} {u0 u1 u2 : Value} (h : W.cell? ⟨n, 0, none⟩ = some u0 ∧ W.cell? ⟨n, 1, none⟩ = some u1 ∧ W.cell? ⟨n, 2, none⟩ = some u2 ∧ (∀ o, W.frozen? ⟨n, o, none⟩ = false) ∧ n < W.heap.size) (hb : Below W.heap.size W W') :
    W'.cell? ⟨n, 0, none⟩ = some u0 ∧ W'.cell? ⟨n, 1, none⟩ = some u1 ∧ W'.cell? ⟨n, 2, none⟩ = some u2 ∧ (∀ o, W'.frozen? ⟨n, o, none⟩ = false) ∧ n < W'.heap.size :=
  ⟨(hb.cell (p := ⟨n, 0, none⟩) h.2.2.2.2).trans h.1, (hb.cell (p := ⟨n, 1, none⟩) h.2.2.2.2).trans h.2.1, (hb.cell (p := ⟨n, 2, none⟩) h.2.2.2.2).trans h.2.2.1,
   fun o => (hb.frozen (p := ⟨n, o, none⟩) h.2.2.2.2).trans (h.2.2.2.1 o), Nat.lt_of_lt_of_le h.2.2.2.2 hb.size⟩
theorem bx3_drew {W : World} {n : Nat} {u0 u1 u2 : Value} (h : W.cell? ⟨n, 0, none⟩ = some u0 ∧ W.cell? ⟨n, 1, none⟩ = some u1 ∧ W.cell? ⟨n, 2, none⟩ = some u2 ∧ (∀ o, W.frozen? ⟨n, o, none⟩ = false) ∧ n < W.heap.size) :
    W.drew.cell? ⟨n, 0, none⟩ = some u0 ∧ W.drew.cell? ⟨n, 1, none⟩ = some u1 ∧ W.drew.cell? ⟨n, 2, none⟩ = some u2 ∧ (∀ o, W.drew.frozen? ⟨n, o, none⟩ = false) ∧ n < W.drew.heap.size := h
theorem bx3_far {W : World} {n : Nat} {u0 u1 u2 : Value} (h : W.cell? ⟨n, 0, none⟩ = some u0 ∧ W.cell? ⟨n, 1, none⟩ = some u1 ∧ W.cell? ⟨n, 2, none⟩ = some u2 ∧ (∀ o, W.frozen? ⟨n, o, none⟩ = false) ∧ n < W.heap.size) {p : Addr} {u : Value} (hp : n ≠ p.block) :
    (W.setCell p u).cell? ⟨n, 0, none⟩ = some u0 ∧ (W.setCell p u).cell? ⟨n, 1, none⟩ = some u1 ∧ (W.setCell p u).cell? ⟨n, 2, none⟩ = some u2 ∧ (∀ o, (W.setCell p u).frozen? ⟨n, o, none⟩ = false) ∧ n < (W.setCell p u).heap.size := by
  have e : ∀ o, (W.setCell p u).cell? ⟨n, o, none⟩ = W.cell? ⟨n, o, none⟩ := fun o => World.cell?_of_block (Below.heap_setCell W p u n hp)
  have g : ∀ o, (W.setCell p u).frozen? ⟨n, o, none⟩ = W.frozen? ⟨n, o, none⟩ := fun o => World.frozen?_of_block (Below.heap_setCell W p u n hp)
  exact ⟨(e 0).trans h.1, (e 1).trans h.2.1, (e 2).trans h.2.2.1, fun o => (g o).trans (h.2.2.2.1 o), by rw [World.size_setCell]; exact h.2.2.2.2⟩
theorem bx3_alloc {W : World} {n : Nat} {u0 u1 u2 : Value} (h : W.cell? ⟨n, 0, none⟩ = some u0 ∧ W.cell? ⟨n, 1, none⟩ = some u1 ∧ W.cell? ⟨n, 2, none⟩ = some u2 ∧ (∀ o, W.frozen? ⟨n, o, none⟩ = false) ∧ n < W.heap.size) (ob : Obj) :
    (W.alloc ob).cell? ⟨n, 0, none⟩ = some u0 ∧ (W.alloc ob).cell? ⟨n, 1, none⟩ = some u1 ∧ (W.alloc ob).cell? ⟨n, 2, none⟩ = some u2 ∧ (∀ o, (W.alloc ob).frozen? ⟨n, o, none⟩ = false) ∧ n < (W.alloc ob).heap.size := bx3_next h ((Below.refl _ _).alloc (Nat.le_refl _) ob)
theorem bx3_made (W : World) {m : Nat} (u0 u1 u2 : Value) (t : Nat) (hm : W.heap.size = m) :
    (W.alloc (.cells #[u0, u1, u2] t)).cell? ⟨m, 0, none⟩ = some u0 ∧ (W.alloc (.cells #[u0, u1, u2] t)).cell? ⟨m, 1, none⟩ = some u1 ∧ (W.alloc (.cells #[u0, u1, u2] t)).cell? ⟨m, 2, none⟩ = some u2 ∧ (∀ o, (W.alloc (.cells #[u0, u1, u2] t)).frozen? ⟨m, o, none⟩ = false) ∧ m < (W.alloc (.cells #[u0, u1, u2] t)).heap.size := by
  subst hm
  exact ⟨by simp [go_sem], by simp [go_sem], by simp [go_sem], fun o => by simp [go_sem], by simp⟩

theorem bx4_next {W W' : World} {n : Nat} {u0 u1 u2 u3 : Value} (h : W.cell? ⟨n, 0, none⟩ = some u0 ∧ W.cell? ⟨n, 1, none⟩ = some u1 ∧ W.cell? ⟨n, 2, none⟩ = some u2 ∧ W.cell? ⟨n, 3, none⟩ = some u3 ∧ (∀ o, W.frozen? ⟨n, o, none⟩ = false) ∧ n < W.heap.size) (hb : Below W.heap.size W W') :
    W'.cell? ⟨n, 0, none⟩ = some u0 ∧ W'.cell? ⟨n, 1, none⟩ = some u1 ∧ W'.cell? ⟨n, 2, none⟩ = some u2 ∧ W'.cell? ⟨n, 3, none⟩ = some u3 ∧ (∀ o, W'.frozen? ⟨n, o, none⟩ = false) ∧ n < W'.heap.size :=
  ⟨(hb.cell (p := ⟨n, 0, none⟩) h.2.2.2.2.2).trans h.1, (hb.cell (p := ⟨n, 1, none⟩) h.2.2.2.2.2).trans h.2.1, (hb.cell (p := ⟨n, 2, none⟩) h.2.2.2.2.2).trans h.2.2.1, (hb.cell (p := ⟨n, 3, none⟩) h.2.2.2.2.2).trans h.2.2.2.1,
   fun o => (hb.frozen (p := ⟨n, o, none⟩) h.2.2.2.2.2).trans (h.2.2.2.2.1 o), Nat.lt_of_lt_of_le h.2.2.2.2.2 hb.size⟩
theorem bx4_drew {W : World} {n : Nat} {u0 u1 u2 u3 : Value} (h : W.cell? ⟨n, 0, none⟩ = some u0 ∧ W.cell? ⟨n, 1, none⟩ = some u1 ∧ W.cell? ⟨n, 2, none⟩ = some u2 ∧ W.cell? ⟨n, 3, none⟩ = some u3 ∧ (∀ o, W.frozen? ⟨n, o, none⟩ = false) ∧ n < W.heap.size) :
    W.drew.cell? ⟨n, 0, none⟩ = some u0 ∧ W.drew.cell? ⟨n, 1, none⟩ = some u1 ∧ W.drew.cell? ⟨n, 2, none⟩ = some u2 ∧ W.drew.cell? ⟨n, 3, none⟩ = some u3 ∧ (∀ o, W.drew.frozen? ⟨n, o, none⟩ = false) ∧ n < W.drew.heap.size := h
theorem bx4_far {W : World} {n : Nat} {u0 u1 u2 u3 : Value} (h : W.cell? ⟨n, 0, none⟩ = some u0 ∧ W.cell? ⟨n, 1, none⟩ = some u1 ∧ W.cell? ⟨n, 2, none⟩ = some u2 ∧ W.cell? ⟨n, 3, none⟩ = some u3 ∧ (∀ o, W.frozen? ⟨n, o, none⟩ = false) ∧ n < W.heap.size) {p : Addr} {u : Value} (hp : n ≠ p.block) :
    (W.setCell p u).cell? ⟨n, 0, none⟩ = some u0 ∧ (W.setCell p u).cell? ⟨n, 1, none⟩ = some u1 ∧ (W.setCell p u).cell? ⟨n, 2, none⟩ = some u2 ∧ (W.setCell p u).cell? ⟨n, 3, none⟩ = some u3 ∧ (∀ o, (W.setCell p u).frozen? ⟨n, o, none⟩ = false) ∧ n < (W.setCell p u).heap.size := by
  have e : ∀ o, (W.setCell p u).cell? ⟨n, o, none⟩ = W.cell? ⟨n, o, none⟩ := fun o => World.cell?_of_block (Below.heap_setCell W p u n hp)
  have g : ∀ o, (W.setCell p u).frozen? ⟨n, o, none⟩ = W.frozen? ⟨n, o, none⟩ := fun o => World.frozen?_of_block (Below.heap_setCell W p u n hp)
  exact ⟨(e 0).trans h.1, (e 1).trans h.2.1, (e 2).trans h.2.2.1, (e 3).trans h.2.2.2.1, fun o => (g o).trans (h.2.2.2.2.1 o), by rw [World.size_setCell]; exact h.2.2.2.2.2⟩
theorem bx4_alloc {W : World} {n : Nat} {u0 u1 u2 u3 : Value} (h : W.cell? ⟨n, 0, none⟩ = some u0 ∧ W.cell? ⟨n, 1, none⟩ = some u1 ∧ W.cell? ⟨n, 2, none⟩ = some u2 ∧ W.cell? ⟨n, 3, none⟩ = some u3 ∧ (∀ o, W.frozen? ⟨n, o, none⟩ = false) ∧ n < W.heap.size) (ob : Obj) :
    (W.alloc ob).cell? ⟨n, 0, none⟩ = some u0 ∧ (W.alloc ob).cell? ⟨n, 1, none⟩ = some u1 ∧ (W.alloc ob).cell? ⟨n, 2, none⟩ = some u2 ∧ (W.alloc ob).cell? ⟨n, 3, none⟩ = some u3 ∧ (∀ o, (W.alloc ob).frozen? ⟨n, o, none⟩ = false) ∧ n < (W.alloc ob).heap.size := bx4_next h ((Below.refl _ _).alloc (Nat.le_refl _) ob)
theorem bx4_made (W : World) {m : Nat} (u0 u1 u2 u3 : Value) (t : Nat) (hm : W.heap.size = m) :
    (W.alloc (.cells #[u0, u1, u2, u3] t)).cell? ⟨m, 0, none⟩ = some u0 ∧ (W.alloc (.cells #[u0, u1, u2, u3] t)).cell? ⟨m, 1, none⟩ = some u1 ∧ (W.alloc (.cells #[u0, u1, u2, u3] t)).cell? ⟨m, 2, none⟩ = some u2 ∧ (W.alloc (.cells #[u0, u1, u2, u3] t)).cell? ⟨m, 3, none⟩ = some u3 ∧ (∀ o, (W.alloc (.cells #[u0, u1, u2, u3] t)).frozen? ⟨m, o, none⟩ = false) ∧ m < (W.alloc (.cells #[u0, u1, u2, u3] t)).heap.size := by
  subst hm
  exact ⟨by simp [go_sem], by simp [go_sem], by simp [go_sem], by simp [go_sem], fun o => by simp [go_sem], by simp⟩

theorem bx6_next {W W' : World} {n : Nat} {u0 u1 u2 u3 u4 u5 : Value} (h : W.cell? ⟨n, 0, none⟩ = some u0 ∧ W.cell? ⟨n, 1, none⟩ = some u1 ∧ W.cell? ⟨n, 2, none⟩ = some u2 ∧ W.cell? ⟨n, 3, none⟩ = some u3 ∧ W.cell? ⟨n, 4, none⟩ = some u4 ∧ W.cell? ⟨n, 5, none⟩ = some u5 ∧ (∀ o, W.frozen? ⟨n, o, none⟩ = false) ∧ n < W.heap.size) (hb : Below W.heap.size W W') :
    W'.cell? ⟨n, 0, none⟩ = some u0 ∧ W'.cell? ⟨n, 1, none⟩ = some u1 ∧ W'.cell? ⟨n, 2, none⟩ = some u2 ∧ W'.cell? ⟨n, 3, none⟩ = some u3 ∧ W'.cell? ⟨n, 4, none⟩ = some u4 ∧ W'.cell? ⟨n, 5, none⟩ = some u5 ∧ (∀ o, W'.frozen? ⟨n, o, none⟩ = false) ∧ n < W'.heap.size :=
  ⟨(hb.cell (p := ⟨n, 0, none⟩) h.2.2.2.2.2.2.2).trans h.1, (hb.cell (p := ⟨n, 1, none⟩) h.2.2.2.2.2.2.2).trans h.2.1, (hb.cell (p := ⟨n, 2, none⟩) h.2.2.2.2.2.2.2).trans h.2.2.1, (hb.cell (p := ⟨n, 3, none⟩) h.2.2.2.2.2.2.2).trans h.2.2.2.1, (hb.cell (p := ⟨n, 4, none⟩) h.2.2.2.2.2.2.2).trans h.2.2.2.2.1, (hb.cell (p := ⟨n, 5, none⟩) h.2.2.2.2.2.2.2).trans h.2.2.2.2.2.1,
   fun o => (hb.frozen (p := ⟨n, o, none⟩) h.2.2.2.2.2.2.2).trans (h.2.2.2.2.2.2.1 o), Nat.lt_of_lt_of_le h.2.2.2.2.2.2.2 hb.size⟩
theorem bx6_drew {W : World} {n : Nat} {u0 u1 u2 u3 u4 u5 : Value} (h : W.cell? ⟨n, 0, none⟩ = some u0 ∧ W.cell? ⟨n, 1, none⟩ = some u1 ∧ W.cell? ⟨n, 2, none⟩ = some u2 ∧ W.cell? ⟨n, 3, none⟩ = some u3 ∧ W.cell? ⟨n, 4, none⟩ = some u4 ∧ W.cell? ⟨n, 5, none⟩ = some u5 ∧ (∀ o, W.frozen? ⟨n, o, none⟩ = false) ∧ n < W.heap.size) :
    W.drew.cell? ⟨n, 0, none⟩ = some u0 ∧ W.drew.cell? ⟨n, 1, none⟩ = some u1 ∧ W.drew.cell? ⟨n, 2, none⟩ = some u2 ∧ W.drew.cell? ⟨n, 3, none⟩ = some u3 ∧ W.drew.cell? ⟨n, 4, none⟩ = some u4 ∧ W.drew.cell? ⟨n, 5, none⟩ = some u5 ∧ (∀ o, W.drew.frozen? ⟨n, o, none⟩ = false) ∧ n < W.drew.heap.size := h
theorem bx6_far {W : World} {n : Nat} {u0 u1 u2 u3 u4 u5 : Value} (h : W.cell? ⟨n, 0, none⟩ = some u0 ∧ W.cell? ⟨n, 1, none⟩ = some u1 ∧ W.cell? ⟨n, 2, none⟩ = some u2 ∧ W.cell? ⟨n, 3, none⟩ = some u3 ∧ W.cell? ⟨n, 4, none⟩ = some u4 ∧ W.cell? ⟨n, 5, none⟩ = some u5 ∧ (∀ o, W.frozen? ⟨n, o, none⟩ = false) ∧ n < W.heap.size) {p : Addr} {u : Value} (hp : n ≠ p.block) :
    (W.setCell p u).cell? ⟨n, 0, none⟩ = some u0 ∧ (W.setCell p u).cell? ⟨n, 1, none⟩ = some u1 ∧ (W.setCell p u).cell? ⟨n, 2, none⟩ = some u2 ∧ (W.setCell p u).cell? ⟨n, 3, none⟩ = some u3 ∧ (W.setCell p u).cell? ⟨n, 4, none⟩ = some u4 ∧ (W.setCell p u).cell? ⟨n, 5, none⟩ = some u5 ∧ (∀ o, (W.setCell p u).frozen? ⟨n, o, none⟩ = false) ∧ n < (W.setCell p u).heap.size := by
  have e : ∀ o, (W.setCell p u).cell? ⟨n, o, none⟩ = W.cell? ⟨n, o, none⟩ := fun o => World.cell?_of_block (Below.heap_setCell W p u n hp)
  have g : ∀ o, (W.setCell p u).frozen? ⟨n, o, none⟩ = W.frozen? ⟨n, o, none⟩ := fun o => World.frozen?_of_block (Below.heap_setCell W p u n hp)
  exact ⟨(e 0).trans h.1, (e 1).trans h.2.1, (e 2).trans h.2.2.1, (e 3).trans h.2.2.2.1, (e 4).trans h.2.2.2.2.1, (e 5).trans h.2.2.2.2.2.1, fun o => (g o).trans (h.2.2.2.2.2.2.1 o), by rw [World.size_setCell]; exact h.2.2.2.2.2.2.2⟩
theorem bx6_alloc {W : World} {n : Nat} {u0 u1 u2 u3 u4 u5 : Value} (h : W.cell? ⟨n, 0, none⟩ = some u0 ∧ W.cell? ⟨n, 1, none⟩ = some u1 ∧ W.cell? ⟨n, 2, none⟩ = some u2 ∧ W.cell? ⟨n, 3, none⟩ = some u3 ∧ W.cell? ⟨n, 4, none⟩ = some u4 ∧ W.cell? ⟨n, 5, none⟩ = some u5 ∧ (∀ o, W.frozen? ⟨n, o, none⟩ = false) ∧ n < W.heap.size) (ob : Obj) :
    (W.alloc ob).cell? ⟨n, 0, none⟩ = some u0 ∧ (W.alloc ob).cell? ⟨n, 1, none⟩ = some u1 ∧ (W.alloc ob).cell? ⟨n, 2, none⟩ = some u2 ∧ (W.alloc ob).cell? ⟨n, 3, none⟩ = some u3 ∧ (W.alloc ob).cell? ⟨n, 4, none⟩ = some u4 ∧ (W.alloc ob).cell? ⟨n, 5, none⟩ = some u5 ∧ (∀ o, (W.alloc ob).frozen? ⟨n, o, none⟩ = false) ∧ n < (W.alloc ob).heap.size := bx6_next h ((Below.refl _ _).alloc (Nat.le_refl _) ob)
theorem bx6_made (W : World) {m : Nat} (u0 u1 u2 u3 u4 u5 : Value) (t : Nat) (hm : W.heap.size = m) :
    (W.alloc (.cells #[u0, u1, u2, u3, u4, u5] t)).cell? ⟨m, 0, none⟩ = some u0 ∧ (W.alloc (.cells #[u0, u1, u2, u3, u4, u5] t)).cell? ⟨m, 1, none⟩ = some u1 ∧ (W.alloc (.cells #[u0, u1, u2, u3, u4, u5] t)).cell? ⟨m, 2, none⟩ = some u2 ∧ (W.alloc (.cells #[u0, u1, u2, u3, u4, u5] t)).cell? ⟨m, 3, none⟩ = some u3 ∧ (W.alloc (.cells #[u0, u1, u2, u3, u4, u5] t)).cell? ⟨m, 4, none⟩ = some u4 ∧ (W.alloc (.cells #[u0, u1, u2, u3, u4, u5] t)).cell? ⟨m, 5, none⟩ = some u5 ∧ (∀ o, (W.alloc (.cells #[u0, u1, u2, u3, u4, u5] t)).frozen? ⟨m, o, none⟩ = false) ∧ m < (W.alloc (.cells #[u0, u1, u2, u3, u4, u5] t)).heap.size := by
  subst hm
  exact ⟨by simp [go_sem], by simp [go_sem], by simp [go_sem], by simp [go_sem], by simp [go_sem], by simp [go_sem], fun o => by simp [go_sem], by simp⟩

theorem sf_alloc {w W : World} {b E M : Nat} (h : W.cell? ⟨b, 0, none⟩ = some (.int .u8 (E : Int)) ∧ W.cell? ⟨b, 1, none⟩ = some (.int .u8 (M : Int)) ∧ b < W.heap.size ∧ Below w.heap.size w W) (ob : Obj) :
    (W.alloc ob).cell? ⟨b, 0, none⟩ = some (.int .u8 (E : Int)) ∧ (W.alloc ob).cell? ⟨b, 1, none⟩ = some (.int .u8 (M : Int)) ∧ b < (W.alloc ob).heap.size ∧ Below w.heap.size w (W.alloc ob) := sf_next h ((Below.refl _ _).alloc (Nat.le_refl _) ob)
/-- what a call that keeps all below leaves known -/
theorem bfacts2 {W w1 : World} (hb : Below W.heap.size W w1) :
    (∀ b o, b < W.heap.size → w1.cell? ⟨b, o, none⟩ = W.cell? ⟨b, o, none⟩) ∧ (∀ b o, b < W.heap.size → w1.frozen? ⟨b, o, none⟩ = W.frozen? ⟨b, o, none⟩) ∧ (∀ b, b < W.heap.size → b < w1.heap.size) :=
  ⟨fun b o h => hb.cell (p := ⟨b, o, none⟩) h, fun b o h => hb.frozen (p := ⟨b, o, none⟩) h, fun b h => Nat.lt_of_lt_of_le h hb.size⟩

end Go.Proofs.Ygcoaj
