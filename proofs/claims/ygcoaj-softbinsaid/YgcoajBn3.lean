/-
  WALKS: soft.numberOf (205), soft.sum (204).
-/
import Derived.Test.YgcoajBn2
set_option linter.unusedVariables false
set_option linter.unusedSimpArgs false
namespace Go.Proofs.Ygcoaj
open Go.RowKit

theorem bx4_set {W : World} {n : Nat} {u0 u1 u2 u3 : Value} (h : (W.cell? ⟨n, 0, none⟩ = some u0 ∧ W.cell? ⟨n, 1, none⟩ = some u1 ∧ W.cell? ⟨n, 2, none⟩ = some u2 ∧ W.cell? ⟨n, 3, none⟩ = some u3 ∧ (∀ o, W.frozen? ⟨n, o, none⟩ = false) ∧ n < W.heap.size)) (v2 v3 : Value) : (((W.setCell ⟨n, 2, none⟩ v2).setCell ⟨n, 3, none⟩ v3).cell? ⟨n, 0, none⟩ = some u0 ∧ ((W.setCell ⟨n, 2, none⟩ v2).setCell ⟨n, 3, none⟩ v3).cell? ⟨n, 1, none⟩ = some u1 ∧ ((W.setCell ⟨n, 2, none⟩ v2).setCell ⟨n, 3, none⟩ v3).cell? ⟨n, 2, none⟩ = some v2 ∧ ((W.setCell ⟨n, 2, none⟩ v2).setCell ⟨n, 3, none⟩ v3).cell? ⟨n, 3, none⟩ = some v3 ∧ (∀ o, ((W.setCell ⟨n, 2, none⟩ v2).setCell ⟨n, 3, none⟩ v3).frozen? ⟨n, o, none⟩ = false) ∧ n < ((W.setCell ⟨n, 2, none⟩ v2).setCell ⟨n, 3, none⟩ v3).heap.size) := by
  refine ⟨?_, ?_, ?_, ?_, fun o => ?_, ?_⟩
  · rw [other _ _ (by simp), other _ _ (by simp)]; exact h.1
  · rw [other _ _ (by simp), other _ _ (by simp)]; exact h.2.1
  · rw [other _ _ (by simp)]; exact World.cell?_setCell_same _ _ _ h.2.2.1
  · have h2 : (W.setCell ⟨n, 2, none⟩ v2).cell? ⟨n, 3, none⟩ = some u3 := by rw [other _ _ (by simp)]; exact h.2.2.2.1
    exact World.cell?_setCell_same _ _ _ h2
  · rw [World.frozen?_setCell, World.frozen?_setCell]; exact h.2.2.2.2.1 o
  · simp only [World.size_setCell]; exact h.2.2.2.2.2
theorem bx4_off {W : World} {n m q : Nat} {v u0 u1 u2 u3 : Value} (h : (W.cell? ⟨n, 0, none⟩ = some u0 ∧ W.cell? ⟨n, 1, none⟩ = some u1 ∧ W.cell? ⟨n, 2, none⟩ = some u2 ∧ W.cell? ⟨n, 3, none⟩ = some u3 ∧ (∀ o, W.frozen? ⟨n, o, none⟩ = false) ∧ n < W.heap.size)) (hm : n ≠ m) : ((W.setCell ⟨m, q, none⟩ v).cell? ⟨n, 0, none⟩ = some u0 ∧ (W.setCell ⟨m, q, none⟩ v).cell? ⟨n, 1, none⟩ = some u1 ∧ (W.setCell ⟨m, q, none⟩ v).cell? ⟨n, 2, none⟩ = some u2 ∧ (W.setCell ⟨m, q, none⟩ v).cell? ⟨n, 3, none⟩ = some u3 ∧ (∀ o, (W.setCell ⟨m, q, none⟩ v).frozen? ⟨n, o, none⟩ = false) ∧ n < (W.setCell ⟨m, q, none⟩ v).heap.size) :=
  ⟨by rw [other _ _ (by simp [hm])]; exact h.1, by rw [other _ _ (by simp [hm])]; exact h.2.1, by rw [other _ _ (by simp [hm])]; exact h.2.2.1, by rw [other _ _ (by simp [hm])]; exact h.2.2.2.1, fun o => by rw [World.frozen?_setCell]; exact h.2.2.2.2.1 o, by simp only [World.size_setCell]; exact h.2.2.2.2.2⟩
theorem bx4_any {W : World} {n : Nat} {u0 u1 u2 u3 : Value} (h : (W.cell? ⟨n, 0, none⟩ = some u0 ∧ W.cell? ⟨n, 1, none⟩ = some u1 ∧ W.cell? ⟨n, 2, none⟩ = some u2 ∧ W.cell? ⟨n, 3, none⟩ = some u3 ∧ (∀ o, W.frozen? ⟨n, o, none⟩ = false) ∧ n < W.heap.size)) (v0 v1 v2 v3 : Value) : (((((W.setCell ⟨n, 0, none⟩ v0).setCell ⟨n, 1, none⟩ v1).setCell ⟨n, 2, none⟩ v2).setCell ⟨n, 3, none⟩ v3).cell? ⟨n, 0, none⟩ = some v0 ∧ ((((W.setCell ⟨n, 0, none⟩ v0).setCell ⟨n, 1, none⟩ v1).setCell ⟨n, 2, none⟩ v2).setCell ⟨n, 3, none⟩ v3).cell? ⟨n, 1, none⟩ = some v1 ∧ ((((W.setCell ⟨n, 0, none⟩ v0).setCell ⟨n, 1, none⟩ v1).setCell ⟨n, 2, none⟩ v2).setCell ⟨n, 3, none⟩ v3).cell? ⟨n, 2, none⟩ = some v2 ∧ ((((W.setCell ⟨n, 0, none⟩ v0).setCell ⟨n, 1, none⟩ v1).setCell ⟨n, 2, none⟩ v2).setCell ⟨n, 3, none⟩ v3).cell? ⟨n, 3, none⟩ = some v3 ∧ (∀ o, ((((W.setCell ⟨n, 0, none⟩ v0).setCell ⟨n, 1, none⟩ v1).setCell ⟨n, 2, none⟩ v2).setCell ⟨n, 3, none⟩ v3).frozen? ⟨n, o, none⟩ = false) ∧ n < ((((W.setCell ⟨n, 0, none⟩ v0).setCell ⟨n, 1, none⟩ v1).setCell ⟨n, 2, none⟩ v2).setCell ⟨n, 3, none⟩ v3).heap.size) := by
  have h0 := World.cell?_setCell_same W ⟨n, 0, none⟩ v0 h.1
  have g1 : (W.setCell ⟨n, 0, none⟩ v0).cell? ⟨n, 1, none⟩ = some u1 := by rw [other _ _ (by simp)]; exact h.2.1
  have g2 : ((W.setCell ⟨n, 0, none⟩ v0).setCell ⟨n, 1, none⟩ v1).cell? ⟨n, 2, none⟩ = some u2 := by rw [other _ _ (by simp), other _ _ (by simp)]; exact h.2.2.1
  have g3 : (((W.setCell ⟨n, 0, none⟩ v0).setCell ⟨n, 1, none⟩ v1).setCell ⟨n, 2, none⟩ v2).cell? ⟨n, 3, none⟩ = some u3 := by rw [other _ _ (by simp), other _ _ (by simp), other _ _ (by simp)]; exact h.2.2.2.1
  refine ⟨?_, ?_, ?_, ?_, fun o => ?_, ?_⟩
  · rw [other _ _ (by simp), other _ _ (by simp), other _ _ (by simp)]; exact h0
  · rw [other _ _ (by simp), other _ _ (by simp)]; exact World.cell?_setCell_same _ _ _ g1
  · rw [other _ _ (by simp)]; exact World.cell?_setCell_same _ _ _ g2
  · exact World.cell?_setCell_same _ _ _ g3
  · rw [World.frozen?_setCell, World.frozen?_setCell, World.frozen?_setCell, World.frozen?_setCell]; exact h.2.2.2.2.1 o
  · simp only [World.size_setCell]; exact h.2.2.2.2.2
theorem sf_far {w W : World} {E M m q : Nat} {v : Value} (h : (W.cell? ⟨w.heap.size, 0, none⟩ = some (.int .u8 (E : Int)) ∧ W.cell? ⟨w.heap.size, 1, none⟩ = some (.int .u8 (M : Int)) ∧ w.heap.size < W.heap.size ∧ Below w.heap.size w W)) (hm : w.heap.size < m) : ((W.setCell ⟨m, q, none⟩ v).cell? ⟨w.heap.size, 0, none⟩ = some (.int .u8 (E : Int)) ∧ (W.setCell ⟨m, q, none⟩ v).cell? ⟨w.heap.size, 1, none⟩ = some (.int .u8 (M : Int)) ∧ w.heap.size < (W.setCell ⟨m, q, none⟩ v).heap.size ∧ Below w.heap.size w (W.setCell ⟨m, q, none⟩ v)) := by
  have hne : w.heap.size ≠ m := by omega
  refine ⟨?_, ?_, ?_, ?_⟩
  · rw [other _ _ (by simp [hne])]; exact h.1
  · rw [other _ _ (by simp [hne])]; exact h.2.1
  · simp only [World.size_setCell]; exact h.2.2.1
  · exact h.2.2.2.setCell (show w.heap.size ≤ m by omega) _
theorem sd_next {w W W' : World} {E M : Nat} {x0 x1 x2 x3 y0 y1 y2 y3 : Value} (h : (W.cell? ⟨w.heap.size, 0, none⟩ = some (.int .u8 (E : Int)) ∧ W.cell? ⟨w.heap.size, 1, none⟩ = some (.int .u8 (M : Int)) ∧ w.heap.size < W.heap.size ∧ Below w.heap.size w W) ∧ (W.cell? ⟨(w.heap.size + 1), 0, none⟩ = some x0 ∧ W.cell? ⟨(w.heap.size + 1), 1, none⟩ = some x1 ∧ W.cell? ⟨(w.heap.size + 1), 2, none⟩ = some x2 ∧ W.cell? ⟨(w.heap.size + 1), 3, none⟩ = some x3 ∧ (∀ o, W.frozen? ⟨(w.heap.size + 1), o, none⟩ = false) ∧ (w.heap.size + 1) < W.heap.size) ∧ (W.cell? ⟨(w.heap.size + 1 + 1), 0, none⟩ = some y0 ∧ W.cell? ⟨(w.heap.size + 1 + 1), 1, none⟩ = some y1 ∧ W.cell? ⟨(w.heap.size + 1 + 1), 2, none⟩ = some y2 ∧ W.cell? ⟨(w.heap.size + 1 + 1), 3, none⟩ = some y3 ∧ (∀ o, W.frozen? ⟨(w.heap.size + 1 + 1), o, none⟩ = false) ∧ (w.heap.size + 1 + 1) < W.heap.size)) (hb : Below W.heap.size W W') : (W'.cell? ⟨w.heap.size, 0, none⟩ = some (.int .u8 (E : Int)) ∧ W'.cell? ⟨w.heap.size, 1, none⟩ = some (.int .u8 (M : Int)) ∧ w.heap.size < W'.heap.size ∧ Below w.heap.size w W') ∧ (W'.cell? ⟨(w.heap.size + 1), 0, none⟩ = some x0 ∧ W'.cell? ⟨(w.heap.size + 1), 1, none⟩ = some x1 ∧ W'.cell? ⟨(w.heap.size + 1), 2, none⟩ = some x2 ∧ W'.cell? ⟨(w.heap.size + 1), 3, none⟩ = some x3 ∧ (∀ o, W'.frozen? ⟨(w.heap.size + 1), o, none⟩ = false) ∧ (w.heap.size + 1) < W'.heap.size) ∧ (W'.cell? ⟨(w.heap.size + 1 + 1), 0, none⟩ = some y0 ∧ W'.cell? ⟨(w.heap.size + 1 + 1), 1, none⟩ = some y1 ∧ W'.cell? ⟨(w.heap.size + 1 + 1), 2, none⟩ = some y2 ∧ W'.cell? ⟨(w.heap.size + 1 + 1), 3, none⟩ = some y3 ∧ (∀ o, W'.frozen? ⟨(w.heap.size + 1 + 1), o, none⟩ = false) ∧ (w.heap.size + 1 + 1) < W'.heap.size) := ⟨sf_next h.1 hb, bx4_next h.2.1 hb, bx4_next h.2.2 hb⟩
theorem sd_drew {w W : World} {E M : Nat} {x0 x1 x2 x3 y0 y1 y2 y3 : Value} (h : (W.cell? ⟨w.heap.size, 0, none⟩ = some (.int .u8 (E : Int)) ∧ W.cell? ⟨w.heap.size, 1, none⟩ = some (.int .u8 (M : Int)) ∧ w.heap.size < W.heap.size ∧ Below w.heap.size w W) ∧ (W.cell? ⟨(w.heap.size + 1), 0, none⟩ = some x0 ∧ W.cell? ⟨(w.heap.size + 1), 1, none⟩ = some x1 ∧ W.cell? ⟨(w.heap.size + 1), 2, none⟩ = some x2 ∧ W.cell? ⟨(w.heap.size + 1), 3, none⟩ = some x3 ∧ (∀ o, W.frozen? ⟨(w.heap.size + 1), o, none⟩ = false) ∧ (w.heap.size + 1) < W.heap.size) ∧ (W.cell? ⟨(w.heap.size + 1 + 1), 0, none⟩ = some y0 ∧ W.cell? ⟨(w.heap.size + 1 + 1), 1, none⟩ = some y1 ∧ W.cell? ⟨(w.heap.size + 1 + 1), 2, none⟩ = some y2 ∧ W.cell? ⟨(w.heap.size + 1 + 1), 3, none⟩ = some y3 ∧ (∀ o, W.frozen? ⟨(w.heap.size + 1 + 1), o, none⟩ = false) ∧ (w.heap.size + 1 + 1) < W.heap.size)) : (W.drew.cell? ⟨w.heap.size, 0, none⟩ = some (.int .u8 (E : Int)) ∧ W.drew.cell? ⟨w.heap.size, 1, none⟩ = some (.int .u8 (M : Int)) ∧ w.heap.size < W.drew.heap.size ∧ Below w.heap.size w W.drew) ∧ (W.drew.cell? ⟨(w.heap.size + 1), 0, none⟩ = some x0 ∧ W.drew.cell? ⟨(w.heap.size + 1), 1, none⟩ = some x1 ∧ W.drew.cell? ⟨(w.heap.size + 1), 2, none⟩ = some x2 ∧ W.drew.cell? ⟨(w.heap.size + 1), 3, none⟩ = some x3 ∧ (∀ o, W.drew.frozen? ⟨(w.heap.size + 1), o, none⟩ = false) ∧ (w.heap.size + 1) < W.drew.heap.size) ∧ (W.drew.cell? ⟨(w.heap.size + 1 + 1), 0, none⟩ = some y0 ∧ W.drew.cell? ⟨(w.heap.size + 1 + 1), 1, none⟩ = some y1 ∧ W.drew.cell? ⟨(w.heap.size + 1 + 1), 2, none⟩ = some y2 ∧ W.drew.cell? ⟨(w.heap.size + 1 + 1), 3, none⟩ = some y3 ∧ (∀ o, W.drew.frozen? ⟨(w.heap.size + 1 + 1), o, none⟩ = false) ∧ (w.heap.size + 1 + 1) < W.drew.heap.size) := ⟨sf_drew h.1, bx4_drew h.2.1, bx4_drew h.2.2⟩
theorem sd_setQ {w W : World} {E M : Nat} {x0 x1 x2 x3 y0 y1 y2 y3 : Value} (h : (W.cell? ⟨w.heap.size, 0, none⟩ = some (.int .u8 (E : Int)) ∧ W.cell? ⟨w.heap.size, 1, none⟩ = some (.int .u8 (M : Int)) ∧ w.heap.size < W.heap.size ∧ Below w.heap.size w W) ∧ (W.cell? ⟨(w.heap.size + 1), 0, none⟩ = some x0 ∧ W.cell? ⟨(w.heap.size + 1), 1, none⟩ = some x1 ∧ W.cell? ⟨(w.heap.size + 1), 2, none⟩ = some x2 ∧ W.cell? ⟨(w.heap.size + 1), 3, none⟩ = some x3 ∧ (∀ o, W.frozen? ⟨(w.heap.size + 1), o, none⟩ = false) ∧ (w.heap.size + 1) < W.heap.size) ∧ (W.cell? ⟨(w.heap.size + 1 + 1), 0, none⟩ = some y0 ∧ W.cell? ⟨(w.heap.size + 1 + 1), 1, none⟩ = some y1 ∧ W.cell? ⟨(w.heap.size + 1 + 1), 2, none⟩ = some y2 ∧ W.cell? ⟨(w.heap.size + 1 + 1), 3, none⟩ = some y3 ∧ (∀ o, W.frozen? ⟨(w.heap.size + 1 + 1), o, none⟩ = false) ∧ (w.heap.size + 1 + 1) < W.heap.size)) (v2 v3 : Value) : (((W.setCell ⟨(w.heap.size + 1 + 1), 2, none⟩ v2).setCell ⟨(w.heap.size + 1 + 1), 3, none⟩ v3).cell? ⟨w.heap.size, 0, none⟩ = some (.int .u8 (E : Int)) ∧ ((W.setCell ⟨(w.heap.size + 1 + 1), 2, none⟩ v2).setCell ⟨(w.heap.size + 1 + 1), 3, none⟩ v3).cell? ⟨w.heap.size, 1, none⟩ = some (.int .u8 (M : Int)) ∧ w.heap.size < ((W.setCell ⟨(w.heap.size + 1 + 1), 2, none⟩ v2).setCell ⟨(w.heap.size + 1 + 1), 3, none⟩ v3).heap.size ∧ Below w.heap.size w ((W.setCell ⟨(w.heap.size + 1 + 1), 2, none⟩ v2).setCell ⟨(w.heap.size + 1 + 1), 3, none⟩ v3)) ∧ (((W.setCell ⟨(w.heap.size + 1 + 1), 2, none⟩ v2).setCell ⟨(w.heap.size + 1 + 1), 3, none⟩ v3).cell? ⟨(w.heap.size + 1), 0, none⟩ = some x0 ∧ ((W.setCell ⟨(w.heap.size + 1 + 1), 2, none⟩ v2).setCell ⟨(w.heap.size + 1 + 1), 3, none⟩ v3).cell? ⟨(w.heap.size + 1), 1, none⟩ = some x1 ∧ ((W.setCell ⟨(w.heap.size + 1 + 1), 2, none⟩ v2).setCell ⟨(w.heap.size + 1 + 1), 3, none⟩ v3).cell? ⟨(w.heap.size + 1), 2, none⟩ = some x2 ∧ ((W.setCell ⟨(w.heap.size + 1 + 1), 2, none⟩ v2).setCell ⟨(w.heap.size + 1 + 1), 3, none⟩ v3).cell? ⟨(w.heap.size + 1), 3, none⟩ = some x3 ∧ (∀ o, ((W.setCell ⟨(w.heap.size + 1 + 1), 2, none⟩ v2).setCell ⟨(w.heap.size + 1 + 1), 3, none⟩ v3).frozen? ⟨(w.heap.size + 1), o, none⟩ = false) ∧ (w.heap.size + 1) < ((W.setCell ⟨(w.heap.size + 1 + 1), 2, none⟩ v2).setCell ⟨(w.heap.size + 1 + 1), 3, none⟩ v3).heap.size) ∧ (((W.setCell ⟨(w.heap.size + 1 + 1), 2, none⟩ v2).setCell ⟨(w.heap.size + 1 + 1), 3, none⟩ v3).cell? ⟨(w.heap.size + 1 + 1), 0, none⟩ = some y0 ∧ ((W.setCell ⟨(w.heap.size + 1 + 1), 2, none⟩ v2).setCell ⟨(w.heap.size + 1 + 1), 3, none⟩ v3).cell? ⟨(w.heap.size + 1 + 1), 1, none⟩ = some y1 ∧ ((W.setCell ⟨(w.heap.size + 1 + 1), 2, none⟩ v2).setCell ⟨(w.heap.size + 1 + 1), 3, none⟩ v3).cell? ⟨(w.heap.size + 1 + 1), 2, none⟩ = some v2 ∧ ((W.setCell ⟨(w.heap.size + 1 + 1), 2, none⟩ v2).setCell ⟨(w.heap.size + 1 + 1), 3, none⟩ v3).cell? ⟨(w.heap.size + 1 + 1), 3, none⟩ = some v3 ∧ (∀ o, ((W.setCell ⟨(w.heap.size + 1 + 1), 2, none⟩ v2).setCell ⟨(w.heap.size + 1 + 1), 3, none⟩ v3).frozen? ⟨(w.heap.size + 1 + 1), o, none⟩ = false) ∧ (w.heap.size + 1 + 1) < ((W.setCell ⟨(w.heap.size + 1 + 1), 2, none⟩ v2).setCell ⟨(w.heap.size + 1 + 1), 3, none⟩ v3).heap.size) :=
  ⟨sf_far (sf_far h.1 (by omega)) (by omega), bx4_off (bx4_off h.2.1 (by omega)) (by omega), bx4_set h.2.2 v2 v3⟩
theorem sd_setP {w W : World} {E M : Nat} {x0 x1 x2 x3 y0 y1 y2 y3 : Value} (h : (W.cell? ⟨w.heap.size, 0, none⟩ = some (.int .u8 (E : Int)) ∧ W.cell? ⟨w.heap.size, 1, none⟩ = some (.int .u8 (M : Int)) ∧ w.heap.size < W.heap.size ∧ Below w.heap.size w W) ∧ (W.cell? ⟨(w.heap.size + 1), 0, none⟩ = some x0 ∧ W.cell? ⟨(w.heap.size + 1), 1, none⟩ = some x1 ∧ W.cell? ⟨(w.heap.size + 1), 2, none⟩ = some x2 ∧ W.cell? ⟨(w.heap.size + 1), 3, none⟩ = some x3 ∧ (∀ o, W.frozen? ⟨(w.heap.size + 1), o, none⟩ = false) ∧ (w.heap.size + 1) < W.heap.size) ∧ (W.cell? ⟨(w.heap.size + 1 + 1), 0, none⟩ = some y0 ∧ W.cell? ⟨(w.heap.size + 1 + 1), 1, none⟩ = some y1 ∧ W.cell? ⟨(w.heap.size + 1 + 1), 2, none⟩ = some y2 ∧ W.cell? ⟨(w.heap.size + 1 + 1), 3, none⟩ = some y3 ∧ (∀ o, W.frozen? ⟨(w.heap.size + 1 + 1), o, none⟩ = false) ∧ (w.heap.size + 1 + 1) < W.heap.size)) (v2 v3 : Value) : (((W.setCell ⟨(w.heap.size + 1), 2, none⟩ v2).setCell ⟨(w.heap.size + 1), 3, none⟩ v3).cell? ⟨w.heap.size, 0, none⟩ = some (.int .u8 (E : Int)) ∧ ((W.setCell ⟨(w.heap.size + 1), 2, none⟩ v2).setCell ⟨(w.heap.size + 1), 3, none⟩ v3).cell? ⟨w.heap.size, 1, none⟩ = some (.int .u8 (M : Int)) ∧ w.heap.size < ((W.setCell ⟨(w.heap.size + 1), 2, none⟩ v2).setCell ⟨(w.heap.size + 1), 3, none⟩ v3).heap.size ∧ Below w.heap.size w ((W.setCell ⟨(w.heap.size + 1), 2, none⟩ v2).setCell ⟨(w.heap.size + 1), 3, none⟩ v3)) ∧ (((W.setCell ⟨(w.heap.size + 1), 2, none⟩ v2).setCell ⟨(w.heap.size + 1), 3, none⟩ v3).cell? ⟨(w.heap.size + 1), 0, none⟩ = some x0 ∧ ((W.setCell ⟨(w.heap.size + 1), 2, none⟩ v2).setCell ⟨(w.heap.size + 1), 3, none⟩ v3).cell? ⟨(w.heap.size + 1), 1, none⟩ = some x1 ∧ ((W.setCell ⟨(w.heap.size + 1), 2, none⟩ v2).setCell ⟨(w.heap.size + 1), 3, none⟩ v3).cell? ⟨(w.heap.size + 1), 2, none⟩ = some v2 ∧ ((W.setCell ⟨(w.heap.size + 1), 2, none⟩ v2).setCell ⟨(w.heap.size + 1), 3, none⟩ v3).cell? ⟨(w.heap.size + 1), 3, none⟩ = some v3 ∧ (∀ o, ((W.setCell ⟨(w.heap.size + 1), 2, none⟩ v2).setCell ⟨(w.heap.size + 1), 3, none⟩ v3).frozen? ⟨(w.heap.size + 1), o, none⟩ = false) ∧ (w.heap.size + 1) < ((W.setCell ⟨(w.heap.size + 1), 2, none⟩ v2).setCell ⟨(w.heap.size + 1), 3, none⟩ v3).heap.size) ∧ (((W.setCell ⟨(w.heap.size + 1), 2, none⟩ v2).setCell ⟨(w.heap.size + 1), 3, none⟩ v3).cell? ⟨(w.heap.size + 1 + 1), 0, none⟩ = some y0 ∧ ((W.setCell ⟨(w.heap.size + 1), 2, none⟩ v2).setCell ⟨(w.heap.size + 1), 3, none⟩ v3).cell? ⟨(w.heap.size + 1 + 1), 1, none⟩ = some y1 ∧ ((W.setCell ⟨(w.heap.size + 1), 2, none⟩ v2).setCell ⟨(w.heap.size + 1), 3, none⟩ v3).cell? ⟨(w.heap.size + 1 + 1), 2, none⟩ = some y2 ∧ ((W.setCell ⟨(w.heap.size + 1), 2, none⟩ v2).setCell ⟨(w.heap.size + 1), 3, none⟩ v3).cell? ⟨(w.heap.size + 1 + 1), 3, none⟩ = some y3 ∧ (∀ o, ((W.setCell ⟨(w.heap.size + 1), 2, none⟩ v2).setCell ⟨(w.heap.size + 1), 3, none⟩ v3).frozen? ⟨(w.heap.size + 1 + 1), o, none⟩ = false) ∧ (w.heap.size + 1 + 1) < ((W.setCell ⟨(w.heap.size + 1), 2, none⟩ v2).setCell ⟨(w.heap.size + 1), 3, none⟩ v3).heap.size) :=
  ⟨sf_far (sf_far h.1 (by omega)) (by omega), bx4_set h.2.1 v2 v3, bx4_off (bx4_off h.2.2 (by omega)) (by omega)⟩
theorem sd_swap {w W : World} {E M : Nat} {x0 x1 x2 x3 y0 y1 y2 y3 : Value} (h : (W.cell? ⟨w.heap.size, 0, none⟩ = some (.int .u8 (E : Int)) ∧ W.cell? ⟨w.heap.size, 1, none⟩ = some (.int .u8 (M : Int)) ∧ w.heap.size < W.heap.size ∧ Below w.heap.size w W) ∧ (W.cell? ⟨(w.heap.size + 1), 0, none⟩ = some x0 ∧ W.cell? ⟨(w.heap.size + 1), 1, none⟩ = some x1 ∧ W.cell? ⟨(w.heap.size + 1), 2, none⟩ = some x2 ∧ W.cell? ⟨(w.heap.size + 1), 3, none⟩ = some x3 ∧ (∀ o, W.frozen? ⟨(w.heap.size + 1), o, none⟩ = false) ∧ (w.heap.size + 1) < W.heap.size) ∧ (W.cell? ⟨(w.heap.size + 1 + 1), 0, none⟩ = some y0 ∧ W.cell? ⟨(w.heap.size + 1 + 1), 1, none⟩ = some y1 ∧ W.cell? ⟨(w.heap.size + 1 + 1), 2, none⟩ = some y2 ∧ W.cell? ⟨(w.heap.size + 1 + 1), 3, none⟩ = some y3 ∧ (∀ o, W.frozen? ⟨(w.heap.size + 1 + 1), o, none⟩ = false) ∧ (w.heap.size + 1 + 1) < W.heap.size)) : (((((((((W.setCell ⟨(w.heap.size + 1), 0, none⟩ y0).setCell ⟨(w.heap.size + 1), 1, none⟩ y1).setCell ⟨(w.heap.size + 1), 2, none⟩ y2).setCell ⟨(w.heap.size + 1), 3, none⟩ y3).setCell ⟨(w.heap.size + 1 + 1), 0, none⟩ x0).setCell ⟨(w.heap.size + 1 + 1), 1, none⟩ x1).setCell ⟨(w.heap.size + 1 + 1), 2, none⟩ x2).setCell ⟨(w.heap.size + 1 + 1), 3, none⟩ x3).cell? ⟨w.heap.size, 0, none⟩ = some (.int .u8 (E : Int)) ∧ ((((((((W.setCell ⟨(w.heap.size + 1), 0, none⟩ y0).setCell ⟨(w.heap.size + 1), 1, none⟩ y1).setCell ⟨(w.heap.size + 1), 2, none⟩ y2).setCell ⟨(w.heap.size + 1), 3, none⟩ y3).setCell ⟨(w.heap.size + 1 + 1), 0, none⟩ x0).setCell ⟨(w.heap.size + 1 + 1), 1, none⟩ x1).setCell ⟨(w.heap.size + 1 + 1), 2, none⟩ x2).setCell ⟨(w.heap.size + 1 + 1), 3, none⟩ x3).cell? ⟨w.heap.size, 1, none⟩ = some (.int .u8 (M : Int)) ∧ w.heap.size < ((((((((W.setCell ⟨(w.heap.size + 1), 0, none⟩ y0).setCell ⟨(w.heap.size + 1), 1, none⟩ y1).setCell ⟨(w.heap.size + 1), 2, none⟩ y2).setCell ⟨(w.heap.size + 1), 3, none⟩ y3).setCell ⟨(w.heap.size + 1 + 1), 0, none⟩ x0).setCell ⟨(w.heap.size + 1 + 1), 1, none⟩ x1).setCell ⟨(w.heap.size + 1 + 1), 2, none⟩ x2).setCell ⟨(w.heap.size + 1 + 1), 3, none⟩ x3).heap.size ∧ Below w.heap.size w ((((((((W.setCell ⟨(w.heap.size + 1), 0, none⟩ y0).setCell ⟨(w.heap.size + 1), 1, none⟩ y1).setCell ⟨(w.heap.size + 1), 2, none⟩ y2).setCell ⟨(w.heap.size + 1), 3, none⟩ y3).setCell ⟨(w.heap.size + 1 + 1), 0, none⟩ x0).setCell ⟨(w.heap.size + 1 + 1), 1, none⟩ x1).setCell ⟨(w.heap.size + 1 + 1), 2, none⟩ x2).setCell ⟨(w.heap.size + 1 + 1), 3, none⟩ x3)) ∧ (((((((((W.setCell ⟨(w.heap.size + 1), 0, none⟩ y0).setCell ⟨(w.heap.size + 1), 1, none⟩ y1).setCell ⟨(w.heap.size + 1), 2, none⟩ y2).setCell ⟨(w.heap.size + 1), 3, none⟩ y3).setCell ⟨(w.heap.size + 1 + 1), 0, none⟩ x0).setCell ⟨(w.heap.size + 1 + 1), 1, none⟩ x1).setCell ⟨(w.heap.size + 1 + 1), 2, none⟩ x2).setCell ⟨(w.heap.size + 1 + 1), 3, none⟩ x3).cell? ⟨(w.heap.size + 1), 0, none⟩ = some y0 ∧ ((((((((W.setCell ⟨(w.heap.size + 1), 0, none⟩ y0).setCell ⟨(w.heap.size + 1), 1, none⟩ y1).setCell ⟨(w.heap.size + 1), 2, none⟩ y2).setCell ⟨(w.heap.size + 1), 3, none⟩ y3).setCell ⟨(w.heap.size + 1 + 1), 0, none⟩ x0).setCell ⟨(w.heap.size + 1 + 1), 1, none⟩ x1).setCell ⟨(w.heap.size + 1 + 1), 2, none⟩ x2).setCell ⟨(w.heap.size + 1 + 1), 3, none⟩ x3).cell? ⟨(w.heap.size + 1), 1, none⟩ = some y1 ∧ ((((((((W.setCell ⟨(w.heap.size + 1), 0, none⟩ y0).setCell ⟨(w.heap.size + 1), 1, none⟩ y1).setCell ⟨(w.heap.size + 1), 2, none⟩ y2).setCell ⟨(w.heap.size + 1), 3, none⟩ y3).setCell ⟨(w.heap.size + 1 + 1), 0, none⟩ x0).setCell ⟨(w.heap.size + 1 + 1), 1, none⟩ x1).setCell ⟨(w.heap.size + 1 + 1), 2, none⟩ x2).setCell ⟨(w.heap.size + 1 + 1), 3, none⟩ x3).cell? ⟨(w.heap.size + 1), 2, none⟩ = some y2 ∧ ((((((((W.setCell ⟨(w.heap.size + 1), 0, none⟩ y0).setCell ⟨(w.heap.size + 1), 1, none⟩ y1).setCell ⟨(w.heap.size + 1), 2, none⟩ y2).setCell ⟨(w.heap.size + 1), 3, none⟩ y3).setCell ⟨(w.heap.size + 1 + 1), 0, none⟩ x0).setCell ⟨(w.heap.size + 1 + 1), 1, none⟩ x1).setCell ⟨(w.heap.size + 1 + 1), 2, none⟩ x2).setCell ⟨(w.heap.size + 1 + 1), 3, none⟩ x3).cell? ⟨(w.heap.size + 1), 3, none⟩ = some y3 ∧ (∀ o, ((((((((W.setCell ⟨(w.heap.size + 1), 0, none⟩ y0).setCell ⟨(w.heap.size + 1), 1, none⟩ y1).setCell ⟨(w.heap.size + 1), 2, none⟩ y2).setCell ⟨(w.heap.size + 1), 3, none⟩ y3).setCell ⟨(w.heap.size + 1 + 1), 0, none⟩ x0).setCell ⟨(w.heap.size + 1 + 1), 1, none⟩ x1).setCell ⟨(w.heap.size + 1 + 1), 2, none⟩ x2).setCell ⟨(w.heap.size + 1 + 1), 3, none⟩ x3).frozen? ⟨(w.heap.size + 1), o, none⟩ = false) ∧ (w.heap.size + 1) < ((((((((W.setCell ⟨(w.heap.size + 1), 0, none⟩ y0).setCell ⟨(w.heap.size + 1), 1, none⟩ y1).setCell ⟨(w.heap.size + 1), 2, none⟩ y2).setCell ⟨(w.heap.size + 1), 3, none⟩ y3).setCell ⟨(w.heap.size + 1 + 1), 0, none⟩ x0).setCell ⟨(w.heap.size + 1 + 1), 1, none⟩ x1).setCell ⟨(w.heap.size + 1 + 1), 2, none⟩ x2).setCell ⟨(w.heap.size + 1 + 1), 3, none⟩ x3).heap.size) ∧ (((((((((W.setCell ⟨(w.heap.size + 1), 0, none⟩ y0).setCell ⟨(w.heap.size + 1), 1, none⟩ y1).setCell ⟨(w.heap.size + 1), 2, none⟩ y2).setCell ⟨(w.heap.size + 1), 3, none⟩ y3).setCell ⟨(w.heap.size + 1 + 1), 0, none⟩ x0).setCell ⟨(w.heap.size + 1 + 1), 1, none⟩ x1).setCell ⟨(w.heap.size + 1 + 1), 2, none⟩ x2).setCell ⟨(w.heap.size + 1 + 1), 3, none⟩ x3).cell? ⟨(w.heap.size + 1 + 1), 0, none⟩ = some x0 ∧ ((((((((W.setCell ⟨(w.heap.size + 1), 0, none⟩ y0).setCell ⟨(w.heap.size + 1), 1, none⟩ y1).setCell ⟨(w.heap.size + 1), 2, none⟩ y2).setCell ⟨(w.heap.size + 1), 3, none⟩ y3).setCell ⟨(w.heap.size + 1 + 1), 0, none⟩ x0).setCell ⟨(w.heap.size + 1 + 1), 1, none⟩ x1).setCell ⟨(w.heap.size + 1 + 1), 2, none⟩ x2).setCell ⟨(w.heap.size + 1 + 1), 3, none⟩ x3).cell? ⟨(w.heap.size + 1 + 1), 1, none⟩ = some x1 ∧ ((((((((W.setCell ⟨(w.heap.size + 1), 0, none⟩ y0).setCell ⟨(w.heap.size + 1), 1, none⟩ y1).setCell ⟨(w.heap.size + 1), 2, none⟩ y2).setCell ⟨(w.heap.size + 1), 3, none⟩ y3).setCell ⟨(w.heap.size + 1 + 1), 0, none⟩ x0).setCell ⟨(w.heap.size + 1 + 1), 1, none⟩ x1).setCell ⟨(w.heap.size + 1 + 1), 2, none⟩ x2).setCell ⟨(w.heap.size + 1 + 1), 3, none⟩ x3).cell? ⟨(w.heap.size + 1 + 1), 2, none⟩ = some x2 ∧ ((((((((W.setCell ⟨(w.heap.size + 1), 0, none⟩ y0).setCell ⟨(w.heap.size + 1), 1, none⟩ y1).setCell ⟨(w.heap.size + 1), 2, none⟩ y2).setCell ⟨(w.heap.size + 1), 3, none⟩ y3).setCell ⟨(w.heap.size + 1 + 1), 0, none⟩ x0).setCell ⟨(w.heap.size + 1 + 1), 1, none⟩ x1).setCell ⟨(w.heap.size + 1 + 1), 2, none⟩ x2).setCell ⟨(w.heap.size + 1 + 1), 3, none⟩ x3).cell? ⟨(w.heap.size + 1 + 1), 3, none⟩ = some x3 ∧ (∀ o, ((((((((W.setCell ⟨(w.heap.size + 1), 0, none⟩ y0).setCell ⟨(w.heap.size + 1), 1, none⟩ y1).setCell ⟨(w.heap.size + 1), 2, none⟩ y2).setCell ⟨(w.heap.size + 1), 3, none⟩ y3).setCell ⟨(w.heap.size + 1 + 1), 0, none⟩ x0).setCell ⟨(w.heap.size + 1 + 1), 1, none⟩ x1).setCell ⟨(w.heap.size + 1 + 1), 2, none⟩ x2).setCell ⟨(w.heap.size + 1 + 1), 3, none⟩ x3).frozen? ⟨(w.heap.size + 1 + 1), o, none⟩ = false) ∧ (w.heap.size + 1 + 1) < ((((((((W.setCell ⟨(w.heap.size + 1), 0, none⟩ y0).setCell ⟨(w.heap.size + 1), 1, none⟩ y1).setCell ⟨(w.heap.size + 1), 2, none⟩ y2).setCell ⟨(w.heap.size + 1), 3, none⟩ y3).setCell ⟨(w.heap.size + 1 + 1), 0, none⟩ x0).setCell ⟨(w.heap.size + 1 + 1), 1, none⟩ x1).setCell ⟨(w.heap.size + 1 + 1), 2, none⟩ x2).setCell ⟨(w.heap.size + 1 + 1), 3, none⟩ x3).heap.size) :=
  ⟨sf_far (sf_far (sf_far (sf_far (sf_far (sf_far (sf_far (sf_far h.1 (by omega)) (by omega)) (by omega)) (by omega)) (by omega)) (by omega)) (by omega)) (by omega), bx4_off (bx4_off (bx4_off (bx4_off (bx4_any h.2.1 y0 y1 y2 y3) (by omega)) (by omega)) (by omega)) (by omega), bx4_any (bx4_off (bx4_off (bx4_off (bx4_off h.2.2 (by omega)) (by omega)) (by omega)) (by omega)) x0 x1 x2 x3⟩
theorem sd_made (w : World) (E M : Nat) (x0 x1 x2 x3 y0 y1 y2 y3 : Value) : ((((w.alloc (.cells #[.int .u8 (E : Int), .int .u8 (M : Int)] 23)).alloc (.cells #[x0, x1, x2, x3] 220)).alloc (.cells #[y0, y1, y2, y3] 220)).cell? ⟨w.heap.size, 0, none⟩ = some (.int .u8 (E : Int)) ∧ (((w.alloc (.cells #[.int .u8 (E : Int), .int .u8 (M : Int)] 23)).alloc (.cells #[x0, x1, x2, x3] 220)).alloc (.cells #[y0, y1, y2, y3] 220)).cell? ⟨w.heap.size, 1, none⟩ = some (.int .u8 (M : Int)) ∧ w.heap.size < (((w.alloc (.cells #[.int .u8 (E : Int), .int .u8 (M : Int)] 23)).alloc (.cells #[x0, x1, x2, x3] 220)).alloc (.cells #[y0, y1, y2, y3] 220)).heap.size ∧ Below w.heap.size w (((w.alloc (.cells #[.int .u8 (E : Int), .int .u8 (M : Int)] 23)).alloc (.cells #[x0, x1, x2, x3] 220)).alloc (.cells #[y0, y1, y2, y3] 220))) ∧ ((((w.alloc (.cells #[.int .u8 (E : Int), .int .u8 (M : Int)] 23)).alloc (.cells #[x0, x1, x2, x3] 220)).alloc (.cells #[y0, y1, y2, y3] 220)).cell? ⟨(w.heap.size + 1), 0, none⟩ = some x0 ∧ (((w.alloc (.cells #[.int .u8 (E : Int), .int .u8 (M : Int)] 23)).alloc (.cells #[x0, x1, x2, x3] 220)).alloc (.cells #[y0, y1, y2, y3] 220)).cell? ⟨(w.heap.size + 1), 1, none⟩ = some x1 ∧ (((w.alloc (.cells #[.int .u8 (E : Int), .int .u8 (M : Int)] 23)).alloc (.cells #[x0, x1, x2, x3] 220)).alloc (.cells #[y0, y1, y2, y3] 220)).cell? ⟨(w.heap.size + 1), 2, none⟩ = some x2 ∧ (((w.alloc (.cells #[.int .u8 (E : Int), .int .u8 (M : Int)] 23)).alloc (.cells #[x0, x1, x2, x3] 220)).alloc (.cells #[y0, y1, y2, y3] 220)).cell? ⟨(w.heap.size + 1), 3, none⟩ = some x3 ∧ (∀ o, (((w.alloc (.cells #[.int .u8 (E : Int), .int .u8 (M : Int)] 23)).alloc (.cells #[x0, x1, x2, x3] 220)).alloc (.cells #[y0, y1, y2, y3] 220)).frozen? ⟨(w.heap.size + 1), o, none⟩ = false) ∧ (w.heap.size + 1) < (((w.alloc (.cells #[.int .u8 (E : Int), .int .u8 (M : Int)] 23)).alloc (.cells #[x0, x1, x2, x3] 220)).alloc (.cells #[y0, y1, y2, y3] 220)).heap.size) ∧ ((((w.alloc (.cells #[.int .u8 (E : Int), .int .u8 (M : Int)] 23)).alloc (.cells #[x0, x1, x2, x3] 220)).alloc (.cells #[y0, y1, y2, y3] 220)).cell? ⟨(w.heap.size + 1 + 1), 0, none⟩ = some y0 ∧ (((w.alloc (.cells #[.int .u8 (E : Int), .int .u8 (M : Int)] 23)).alloc (.cells #[x0, x1, x2, x3] 220)).alloc (.cells #[y0, y1, y2, y3] 220)).cell? ⟨(w.heap.size + 1 + 1), 1, none⟩ = some y1 ∧ (((w.alloc (.cells #[.int .u8 (E : Int), .int .u8 (M : Int)] 23)).alloc (.cells #[x0, x1, x2, x3] 220)).alloc (.cells #[y0, y1, y2, y3] 220)).cell? ⟨(w.heap.size + 1 + 1), 2, none⟩ = some y2 ∧ (((w.alloc (.cells #[.int .u8 (E : Int), .int .u8 (M : Int)] 23)).alloc (.cells #[x0, x1, x2, x3] 220)).alloc (.cells #[y0, y1, y2, y3] 220)).cell? ⟨(w.heap.size + 1 + 1), 3, none⟩ = some y3 ∧ (∀ o, (((w.alloc (.cells #[.int .u8 (E : Int), .int .u8 (M : Int)] 23)).alloc (.cells #[x0, x1, x2, x3] 220)).alloc (.cells #[y0, y1, y2, y3] 220)).frozen? ⟨(w.heap.size + 1 + 1), o, none⟩ = false) ∧ (w.heap.size + 1 + 1) < (((w.alloc (.cells #[.int .u8 (E : Int), .int .u8 (M : Int)] 23)).alloc (.cells #[x0, x1, x2, x3] 220)).alloc (.cells #[y0, y1, y2, y3] 220)).heap.size) :=
  ⟨sf_alloc (sf_alloc (sf_box w E M) _) _, bx4_alloc (bx4_made (w.alloc (.cells #[.int .u8 (E : Int), .int .u8 (M : Int)] 23)) (m := w.heap.size + 1) _ _ _ _ 220 (by simp)) _, bx4_made ((w.alloc (.cells #[.int .u8 (E : Int), .int .u8 (M : Int)] 23)).alloc (.cells #[x0, x1, x2, x3] 220)) (m := w.heap.size + 1 + 1) _ _ _ _ 220 (by simp)⟩

/-- the words of m * 2^63 -/
theorem num_words {m : Nat} (h : m < 18446744073709551616) : Wd (m / 2) (m * 9223372036854775808 % 18446744073709551616) (m * 9223372036854775808) := ⟨by omega, by omega, by unfold w128; omega⟩

set_option maxRecDepth 100000 in
set_option maxHeartbeats 2000000 in
theorem numberOf_ok (E M : Nat) (hM : M ≤ 52) (NG : Bool) (C VE : Int) (VM m : Nat) (hm : VM * 2 ^ (63 - M) = m) (hv : m < 18446744073709551616) (he : -5000 < VE) (he2 : VE < 5000) (w : World) :
    Calls Oajg.prog 205 #[.agg #[.int .u8 (E : Int), .int .u8 (M : Int)], .agg #[.bool NG, .int .i8 C, .int .i16 VE, .int .u64 (VM : Int)]] w fun e w' => e = .returned (.agg #[.bool NG, .int .i16 (VE - ((63 - M : Nat) : Int) - 63), .int .u64 ((m / 2 : Nat) : Int), .int .u64 ((m * 9223372036854775808 % 18446744073709551616 : Nat) : Int)]) ∧ Below w.heap.size w w' := by
  have HT : Hid (∀ w, Calls Oajg.prog 151 #[.agg #[.int .u8 (E : Int), .int .u8 (M : Int)], .agg #[.bool NG, .int .i8 C, .int .i16 VE, .int .u64 (VM : Int)]] w fun e w' => e = .returned (.tuple #[.int .u64 (m : Int), .int .i16 (VE - ((63 - M : Nat) : Int))]) ∧ Below w.heap.size w w') := fun w => by
    have := top_ok E M (by omega) NG C VE VM (by omega) (by omega) (by omega) w
    rw [hm] at this
    exact this
  obtain ⟨X, hX⟩ : ∃ X : Int, X = VE - ((63 - M : Nat) : Int) := ⟨_, rfl⟩
  have hX1 : -6000 < X := by omega
  have hX2 : X < 6000 := by omega
  rw [← hX] at HT ⊢
  obtain ⟨H, hH⟩ : ∃ H, H = m / 2 := ⟨_, rfl⟩
  obtain ⟨L, hL⟩ : ∃ L, L = m * 9223372036854775808 % 18446744073709551616 := ⟨_, rfl⟩
  have kH : (m : Int) / 2 = (H : Int) := by omega
  have kL : IntKind.u64.wrap ((m : Int) * 9223372036854775808) = (L : Int) := by rw [IntKind.wrap_u64]; omega
  have kH1 : (m : Int) / 2 ^ 1 = (H : Int) := kH
  have kL1 : IntKind.u64.wrap ((m : Int) * 2 ^ 63) = (L : Int) := kL
  rw [← hH, ← hL]
  have hP := bx4_alloc (bx4_made (w.alloc (.cells #[.int .u8 (E : Int), .int .u8 (M : Int)] 23)) (m := w.heap.size + 1) (.bool NG) (.int .i8 C) (.int .i16 VE) (.int .u64 (VM : Int)) 107 (by simp)) (.cells #[.bool false, .int .i16 0, .int .u64 0, .int .u64 0] 220)
  have hR := bx4_made ((w.alloc (.cells #[.int .u8 (E : Int), .int .u8 (M : Int)] 23)).alloc (.cells #[.bool NG, .int .i8 C, .int .i16 VE, .int .u64 (VM : Int)] 107)) (m := w.heap.size + 1 + 1) (.bool false) (.int .i16 0) (.int .u64 0) (.int .u64 0) 220 (by simp)
  have hB := hidden (show Below w.heap.size w (((w.alloc (.cells #[.int .u8 (E : Int), .int .u8 (M : Int)] 23)).alloc (.cells #[.bool NG, .int .i8 C, .int .i16 VE, .int .u64 (VM : Int)] 107)).alloc (.cells #[.bool false, .int .i16 0, .int .u64 0, .int .u64 0] 220)) from (((Below.refl _ _).alloc (Nat.le_refl _) _).alloc (by simp) _).alloc (by simp; omega) _)
  clear hm hX hH hL
  go_enter Oajg.func205, Oajg.ntmps205
  go_wp2_with fail
  refine Calls.mono (HT.out _) ?_
  rintro _ w1 ⟨rfl, hb⟩
  replace hP := bx4_next hP hb
  replace hR := bx4_next hR hb
  replace hB := hidden (below_then hB.out hb)
  clear hb
  go_wp2_with fail
  refine bodyPost_ret (v := .agg #[.bool NG, .int .i16 (X - 63), .int .u64 (H : Int), .int .u64 (L : Int)]) (by simp [results, Oajg.results205, go_sem, hR]) rfl ⟨rfl, ?_⟩
  exact (((hB.out.setCell (show w.heap.size ≤ w.heap.size + 1 + 1 by omega) _).setCell (show w.heap.size ≤ w.heap.size + 1 + 1 by omega) _).setCell (show w.heap.size ≤ w.heap.size + 1 + 1 by omega) _).setCell (show w.heap.size ≤ w.heap.size + 1 + 1 by omega) _

/-- the sum of two ordered numbers, plain -/
def smB (g : Nat) (B : Nat) : Nat := jamQ B (2 ^ g)
def smT (na nb : Bool) (A B' : Nat) : Nat := if na = nb then A + B' else A - B'
def smR (E M mo : Nat) (na : Bool) (ea : Int) (S : Nat) : Nat :=
  if S = 0 then sgnd E M (decide (mo = 4)) 0 else rpN E M mo na (ea + 64 - ((128 - bitLen S : Nat) : Int)) (jamQ (S * 2 ^ (128 - bitLen S)) 18446744073709551616)
def smO (E M mo : Nat) (na : Bool) (ea : Int) (A : Nat) (nb : Bool) (eb : Int) (B : Nat) : Nat :=
  smR E M mo na ea (smT na nb A (smB (min (ea - eb) 255).toNat B))
theorem jamQ_lt {S : Nat} (h0 : S ≠ 0) (h : S < 18446744073709551616 * 18446744073709551616) : jamQ (S * 2 ^ (128 - bitLen S)) 18446744073709551616 < 18446744073709551616 := by
  have hb : bitLen S ≤ 128 := bitLen_le_of_lt (n := 128) h
  have h1 := Nat.mul_lt_mul_of_pos_right (bitLen_lt S) (pp (128 - bitLen S))
  rw [← Nat.pow_add, show bitLen S + (128 - bitLen S) = 128 by omega] at h1
  have h2 : S * 2 ^ (128 - bitLen S) / 18446744073709551616 < 18446744073709551616 := Nat.div_lt_of_lt_mul h1
  unfold jamQ
  split <;> omega
theorem jam_le {B g : Nat} (h : B < 18446744073709551616 * 18446744073709551616) : smB g B < 18446744073709551616 * 18446744073709551616 := by
  unfold smB jamQ
  have := Nat.div_le_self B (2 ^ g)
  split <;> omega

set_option maxRecDepth 100000 in
set_option maxHeartbeats 8000000 in
theorem sum_gt (E M : Nat) (h : FOk E M) (mo : Nat) (n1 n2 : Bool) (e1 e2 : Int) (h1 l1 h2 l2 A B : Nat) (hA : Wd h1 l1 A) (hB : Wd h2 l2 B) (hA1 : 2 ^ 126 ≤ A) (hA2 : A < 2 ^ 127) (hB1 : 2 ^ 126 ≤ B) (hB2 : B < 2 ^ 127) (r1 : -5000 < e1) (r2 : e1 < 5000) (r3 : -5000 < e2) (r4 : e2 < 5000) (hc : e2 < e1) (w : World) :
    Calls Oajg.prog 204 #[.agg #[.int .u8 (E : Int), .int .u8 (M : Int)], .int .u8 (mo : Int), .agg #[.bool n1, .int .i16 e1, .int .u64 (h1 : Int), .int .u64 (l1 : Int)], .agg #[.bool n2, .int .i16 e2, .int .u64 (h2 : Int), .int .u64 (l2 : Int)]] w fun e w' => ∃ fl, e = .returned (.tuple #[.int .u64 (smO E M mo n1 e1 A n2 e2 B : Nat), .int .u8 fl]) ∧ Below w.heap.size w w' := by
  have HFO : Hid (FOk E M) := h
  have HA : Hid (Wd h1 l1 A) := hA
  have HB : Hid (Wd h2 l2 B) := hB
  have HZE : Hid (∀ w, Calls Oajg.prog 132 #[.agg #[.int .u8 (E : Int), .int .u8 (M : Int)], .bool ((mo : Int) == 4)] w fun e w' => e = .returned (.int .u64 (sgnd E M (decide (mo = 4)) 0 : Nat)) ∧ Below w.heap.size w w') := by
    have e4 : ((mo : Int) == 4) = decide (mo = 4) := by
      by_cases hm : mo = 4
      · simp [hm]
      · have : ¬ (mo : Int) = 4 := by omega
        simp [hm, this]
    rw [e4]
    exact zeroS_ok E M h (decide (mo = 4))
  obtain ⟨MB, hMB⟩ : ∃ MB, ((mo : Int) == 4) = MB := ⟨_, rfl⟩
  rw [hMB] at HZE
  have ha1 := hA.1
  have ha2 := hA.2.1
  have hb1 := hB.1
  have hb2 := hB.2.1
  obtain ⟨g, hg⟩ : ∃ g : Nat, g = (min (e1 - e2) 255).toNat := ⟨_, rfl⟩
  have hcase : (255 < e1 - e2 ∧ g = 255) ∨ (¬ 255 < e1 - e2 ∧ (g : Int) = e1 - e2) := by omega
  have hg1 : 1 ≤ g := by omega
  have hBle : smB g B ≤ A := by
    unfold smB jamQ
    have h3 : B / 2 ^ g ≤ B / 2 := by
      refine Nat.div_le_div_left ?_ (by decide)
      exact Nat.pow_le_pow_right (n := 2) (i := 1) (j := g) (by decide) hg1
    split <;> omega
  have hBle2 : smB g B < 2 ^ 126 := by
    unfold smB jamQ
    have h3 : B / 2 ^ g ≤ B / 2 := by
      refine Nat.div_le_div_left ?_ (by decide)
      exact Nat.pow_le_pow_right (n := 2) (i := 1) (j := g) (by decide) hg1
    split <;> omega
  obtain ⟨F, HF0⟩ : ∃ F, F = smO E M mo n1 e1 A n2 e2 B := ⟨_, rfl⟩
  have HF1 : F = smR E M mo n1 e1 (smT n1 n2 A (smB g B)) := by rw [HF0, hg]; rfl
  rw [← HF0]
  have HJ : Hid (∀ w, Calls Oajg.prog 209 #[.agg #[.int .u64 (h2 : Int), .int .u64 (l2 : Int)], .int .u8 (g : Int)] w fun e w' => ∃ hi lo : Nat, Wd hi lo (smB g B) ∧ e = .returned (.agg #[.int .u64 (hi : Int), .int .u64 (lo : Int)]) ∧ Below w.heap.size w w') := shrJam_ok h2 l2 g B HB.out (by omega)
  have kc : ¬ e1 < e2 := by omega
  have kc2 : ¬ e1 = e2 := by omega
  clear h hA hB HF0 hg
  have hD := sd_made w E M (.bool n1) (.int .i16 e1) (.int .u64 (h1 : Int)) (.int .u64 (l1 : Int)) (.bool n2) (.int .i16 e2) (.int .u64 (h2 : Int)) (.int .u64 (l2 : Int))
  by_cases hs : n1 = n2
  · have HF : Hid (F = smR E M mo n1 e1 (A + smB g B)) := by show _ = _; rw [HF1]; unfold smT; rw [if_pos hs]
    clear HF1
    subst hs
    have jn : (n1 == n1) = true := by simp
    rcases hcase with ⟨hc1, rfl⟩ | ⟨hc1, hc2⟩
    · go_enter Oajg.func204, Oajg.ntmps204
      go_wp2_with fail
      refine Calls.mono (HJ.out _) ?_
      rintro _ v1 ⟨jh, jl, hjw, rfl, hb⟩
      have HJW : Hid (Wd jh jl (smB 255 B)) := hjw
      have hD0 := sd_next hD hb
      have hD1 := sd_setQ hD0 (.int .u64 (jh : Int)) (.int .u64 (jl : Int))
      clear hb hD hjw
      obtain ⟨S, hS⟩ : ∃ S, S = A + smB 255 B := ⟨_, rfl⟩
      have HAD := hidden (wadd_ok h1 l1 jh jl A (smB 255 B) HA.out HJW.out (by omega))
      rw [← hS] at HAD HF
      clear hS
      go_wp2_with fail
      clear hD0
      refine Calls.mono (HAD.out _) ?_
      rintro _ v2 ⟨sh, sl, hsw, rfl, hb⟩
      have HSW : Hid (Wd sh sl S) := hsw
      have hD8 := sd_next hD1 hb
      have hD2 := sd_setP hD8 (.int .u64 (sh : Int)) (.int .u64 (sl : Int))
      clear hb hD1
      obtain ⟨O, hO⟩ : ∃ O, O = sh ||| sl := ⟨_, rfl⟩
      have kO : bits .or .u64 (sh : Int) (sl : Int) = (O : Int) := by rw [hO]; exact u64_or_nat _ _ hsw.1 hsw.2.1
      have hO0 : O = 0 ↔ S = 0 := by rw [hO, ← hsw.2.2, Nat.or_eq_zero_iff]; unfold w128; omega
      have HJM := hidden (fun (hS0 : S ≠ 0) => jam_ok sh sl S e1 hsw hS0 (by omega) (by omega))
      have hRlt := hidden (fun (hS0 : S ≠ 0) => jamQ_lt hS0 (wd_lt hsw))
      have hbS : bitLen S ≤ 128 := bitLen_le_of_lt (n := 128) (wd_lt hsw)
      clear hO hsw
      by_cases hS0 : S = 0
      · have jO : (O : Int) = 0 := by have := hO0.2 hS0; omega
        have HF0 : Hid (F = sgnd E M (decide (mo = 4)) 0) := by show _ = _; rw [HF.out]; unfold smR; rw [if_pos hS0]
        clear hO0 HJM hRlt
        go_wp2_with fail
        clear hD8
        refine Calls.mono (HZE.out _) ?_
        rintro _ v3 ⟨rfl, hb⟩
        have hD3 := sd_next hD2 hb
        clear hb hD2
        go_wp2_with fail
        go_ret2
        exact ⟨_, by rw [HF0.out]; rfl, hD3.1.2.2.2⟩
      · have jO : ¬ (O : Int) = 0 := by have : O ≠ 0 := fun hc => hS0 (hO0.1 hc); omega
        have HF0 : Hid (F = rpN E M mo n1 (e1 + 64 - ((128 - bitLen S : Nat) : Int)) (jamQ (S * 2 ^ (128 - bitLen S)) 18446744073709551616)) := by show _ = _; rw [HF.out]; unfold smR; rw [if_neg hS0]
        have HJM2 := hidden (HJM.out hS0)
        have hJ64 := hRlt.out hS0
        obtain ⟨J, HJe⟩ : ∃ J, J = jamQ (S * 2 ^ (128 - bitLen S)) 18446744073709551616 := ⟨_, rfl⟩
        obtain ⟨X, HXe⟩ : ∃ X : Int, X = e1 + 64 - ((128 - bitLen S : Nat) : Int) := ⟨_, rfl⟩
        rw [← HJe, ← HXe] at HJM2 HF0
        rw [← HJe] at hJ64
        have HRP := hidden (roundPack_ok E M HFO.out mo n1 X J hJ64 (by omega) (by omega))
        clear hO0 HJM hRlt HJe HXe hbS
        go_wp2_with fail
        clear hD8
        refine Calls.mono (HJM2.out _) ?_
        rintro _ v3 ⟨rfl, hb⟩
        have hD3 := sd_next hD2 hb
        clear hb hD2 HJM2
        generalize rpN E M mo n1 X J = RN at *
        generalize rpF E M mo n1 X J = RF at *
        go_wp2_with fail
        refine Calls.mono (HRP.out _) ?_
        rintro _ v4 ⟨rfl, hb⟩
        have hD4 := sd_next hD3 hb
        clear hb hD3
        go_wp2_with fail
        go_ret2
        exact ⟨_, by rw [HF0.out]; rfl, hD4.1.2.2.2⟩
    · have kg : e1 - e2 = (g : Int) := hc2.symm
      have kg2 : ¬ (255 : Int) < (g : Int) := by omega
      have kg3 : g ≤ 255 := by omega
      clear hc1 hc2
      go_enter Oajg.func204, Oajg.ntmps204
      go_wp2_with fail
      refine Calls.mono (HJ.out _) ?_
      rintro _ v1 ⟨jh, jl, hjw, rfl, hb⟩
      have HJW : Hid (Wd jh jl (smB g B)) := hjw
      have hD0 := sd_next hD hb
      have hD1 := sd_setQ hD0 (.int .u64 (jh : Int)) (.int .u64 (jl : Int))
      clear hb hD hjw
      obtain ⟨S, hS⟩ : ∃ S, S = A + smB g B := ⟨_, rfl⟩
      have HAD := hidden (wadd_ok h1 l1 jh jl A (smB g B) HA.out HJW.out (by omega))
      rw [← hS] at HAD HF
      clear hS
      go_wp2_with fail
      clear hD0
      refine Calls.mono (HAD.out _) ?_
      rintro _ v2 ⟨sh, sl, hsw, rfl, hb⟩
      have HSW : Hid (Wd sh sl S) := hsw
      have hD8 := sd_next hD1 hb
      have hD2 := sd_setP hD8 (.int .u64 (sh : Int)) (.int .u64 (sl : Int))
      clear hb hD1
      obtain ⟨O, hO⟩ : ∃ O, O = sh ||| sl := ⟨_, rfl⟩
      have kO : bits .or .u64 (sh : Int) (sl : Int) = (O : Int) := by rw [hO]; exact u64_or_nat _ _ hsw.1 hsw.2.1
      have hO0 : O = 0 ↔ S = 0 := by rw [hO, ← hsw.2.2, Nat.or_eq_zero_iff]; unfold w128; omega
      have HJM := hidden (fun (hS0 : S ≠ 0) => jam_ok sh sl S e1 hsw hS0 (by omega) (by omega))
      have hRlt := hidden (fun (hS0 : S ≠ 0) => jamQ_lt hS0 (wd_lt hsw))
      have hbS : bitLen S ≤ 128 := bitLen_le_of_lt (n := 128) (wd_lt hsw)
      clear hO hsw
      by_cases hS0 : S = 0
      · have jO : (O : Int) = 0 := by have := hO0.2 hS0; omega
        have HF0 : Hid (F = sgnd E M (decide (mo = 4)) 0) := by show _ = _; rw [HF.out]; unfold smR; rw [if_pos hS0]
        clear hO0 HJM hRlt
        go_wp2_with fail
        clear hD8
        refine Calls.mono (HZE.out _) ?_
        rintro _ v3 ⟨rfl, hb⟩
        have hD3 := sd_next hD2 hb
        clear hb hD2
        go_wp2_with fail
        go_ret2
        exact ⟨_, by rw [HF0.out]; rfl, hD3.1.2.2.2⟩
      · have jO : ¬ (O : Int) = 0 := by have : O ≠ 0 := fun hc => hS0 (hO0.1 hc); omega
        have HF0 : Hid (F = rpN E M mo n1 (e1 + 64 - ((128 - bitLen S : Nat) : Int)) (jamQ (S * 2 ^ (128 - bitLen S)) 18446744073709551616)) := by show _ = _; rw [HF.out]; unfold smR; rw [if_neg hS0]
        have HJM2 := hidden (HJM.out hS0)
        have hJ64 := hRlt.out hS0
        obtain ⟨J, HJe⟩ : ∃ J, J = jamQ (S * 2 ^ (128 - bitLen S)) 18446744073709551616 := ⟨_, rfl⟩
        obtain ⟨X, HXe⟩ : ∃ X : Int, X = e1 + 64 - ((128 - bitLen S : Nat) : Int) := ⟨_, rfl⟩
        rw [← HJe, ← HXe] at HJM2 HF0
        rw [← HJe] at hJ64
        have HRP := hidden (roundPack_ok E M HFO.out mo n1 X J hJ64 (by omega) (by omega))
        clear hO0 HJM hRlt HJe HXe hbS
        go_wp2_with fail
        clear hD8
        refine Calls.mono (HJM2.out _) ?_
        rintro _ v3 ⟨rfl, hb⟩
        have hD3 := sd_next hD2 hb
        clear hb hD2 HJM2
        generalize rpN E M mo n1 X J = RN at *
        generalize rpF E M mo n1 X J = RF at *
        go_wp2_with fail
        refine Calls.mono (HRP.out _) ?_
        rintro _ v4 ⟨rfl, hb⟩
        have hD4 := sd_next hD3 hb
        clear hb hD3
        go_wp2_with fail
        go_ret2
        exact ⟨_, by rw [HF0.out]; rfl, hD4.1.2.2.2⟩
  · have HF : Hid (F = smR E M mo n1 e1 (A - smB g B)) := by show _ = _; rw [HF1]; unfold smT; rw [if_neg hs]
    clear HF1
    have jn : (n1 == n2) = false := by cases n1 <;> cases n2 <;> simp_all
    have jn2 : (n2 == n1) = false := by cases n1 <;> cases n2 <;> simp_all
    rcases hcase with ⟨hc1, rfl⟩ | ⟨hc1, hc2⟩
    · go_enter Oajg.func204, Oajg.ntmps204
      go_wp2_with fail
      refine Calls.mono (HJ.out _) ?_
      rintro _ v1 ⟨jh, jl, hjw, rfl, hb⟩
      have HJW : Hid (Wd jh jl (smB 255 B)) := hjw
      have hD0 := sd_next hD hb
      have hD1 := sd_setQ hD0 (.int .u64 (jh : Int)) (.int .u64 (jl : Int))
      clear hb hD hjw
      obtain ⟨S, hS⟩ : ∃ S, S = A - smB 255 B := ⟨_, rfl⟩
      have HSB := hidden (wsub_ok h1 l1 jh jl A (smB 255 B) HA.out HJW.out hBle)
      have HCM := hidden (wcmp_ok h1 l1 jh jl HA.out.1 HA.out.2.1 HJW.out.1 HJW.out.2.1)
      obtain ⟨Z, HZ⟩ : ∃ Z, Hid (cmpZ (w128 h1 l1) (w128 jh jl) = Z) := ⟨_, rfl⟩
      have hZ : ¬ Z < 0 := by
        rw [← HZ.out, HA.out.2.2, HJW.out.2.2]; unfold cmpZ; rw [if_neg (by omega)]; split <;> decide
      rw [HZ.out] at HCM
      rw [← hS] at HSB HF
      clear hS HZ
      go_wp2_with fail
      clear hD0
      refine Calls.mono (HCM.out _) ?_
      rintro _ v5 ⟨rfl, hb⟩
      have hD5 := sd_next hD1 hb
      clear hb hD1 HCM
      go_wp2_with fail
      refine Calls.mono (HSB.out _) ?_
      rintro _ v2 ⟨sh, sl, hsw, rfl, hb⟩
      have HSW : Hid (Wd sh sl S) := hsw
      have hD8 := sd_next hD5 hb
      have hD2 := sd_setP hD8 (.int .u64 (sh : Int)) (.int .u64 (sl : Int))
      clear hb hD5
      obtain ⟨O, hO⟩ : ∃ O, O = sh ||| sl := ⟨_, rfl⟩
      have kO : bits .or .u64 (sh : Int) (sl : Int) = (O : Int) := by rw [hO]; exact u64_or_nat _ _ hsw.1 hsw.2.1
      have hO0 : O = 0 ↔ S = 0 := by rw [hO, ← hsw.2.2, Nat.or_eq_zero_iff]; unfold w128; omega
      have HJM := hidden (fun (hS0 : S ≠ 0) => jam_ok sh sl S e1 hsw hS0 (by omega) (by omega))
      have hRlt := hidden (fun (hS0 : S ≠ 0) => jamQ_lt hS0 (wd_lt hsw))
      have hbS : bitLen S ≤ 128 := bitLen_le_of_lt (n := 128) (wd_lt hsw)
      clear hO hsw
      by_cases hS0 : S = 0
      · have jO : (O : Int) = 0 := by have := hO0.2 hS0; omega
        have HF0 : Hid (F = sgnd E M (decide (mo = 4)) 0) := by show _ = _; rw [HF.out]; unfold smR; rw [if_pos hS0]
        clear hO0 HJM hRlt
        go_wp2_with fail
        clear hD8
        refine Calls.mono (HZE.out _) ?_
        rintro _ v3 ⟨rfl, hb⟩
        have hD3 := sd_next hD2 hb
        clear hb hD2
        go_wp2_with fail
        go_ret2
        exact ⟨_, by rw [HF0.out]; rfl, hD3.1.2.2.2⟩
      · have jO : ¬ (O : Int) = 0 := by have : O ≠ 0 := fun hc => hS0 (hO0.1 hc); omega
        have HF0 : Hid (F = rpN E M mo n1 (e1 + 64 - ((128 - bitLen S : Nat) : Int)) (jamQ (S * 2 ^ (128 - bitLen S)) 18446744073709551616)) := by show _ = _; rw [HF.out]; unfold smR; rw [if_neg hS0]
        have HJM2 := hidden (HJM.out hS0)
        have hJ64 := hRlt.out hS0
        obtain ⟨J, HJe⟩ : ∃ J, J = jamQ (S * 2 ^ (128 - bitLen S)) 18446744073709551616 := ⟨_, rfl⟩
        obtain ⟨X, HXe⟩ : ∃ X : Int, X = e1 + 64 - ((128 - bitLen S : Nat) : Int) := ⟨_, rfl⟩
        rw [← HJe, ← HXe] at HJM2 HF0
        rw [← HJe] at hJ64
        have HRP := hidden (roundPack_ok E M HFO.out mo n1 X J hJ64 (by omega) (by omega))
        clear hO0 HJM hRlt HJe HXe hbS
        go_wp2_with fail
        clear hD8
        refine Calls.mono (HJM2.out _) ?_
        rintro _ v3 ⟨rfl, hb⟩
        have hD3 := sd_next hD2 hb
        clear hb hD2 HJM2
        generalize rpN E M mo n1 X J = RN at *
        generalize rpF E M mo n1 X J = RF at *
        go_wp2_with fail
        refine Calls.mono (HRP.out _) ?_
        rintro _ v4 ⟨rfl, hb⟩
        have hD4 := sd_next hD3 hb
        clear hb hD3
        go_wp2_with fail
        go_ret2
        exact ⟨_, by rw [HF0.out]; rfl, hD4.1.2.2.2⟩
    · have kg : e1 - e2 = (g : Int) := hc2.symm
      have kg2 : ¬ (255 : Int) < (g : Int) := by omega
      have kg3 : g ≤ 255 := by omega
      clear hc1 hc2
      go_enter Oajg.func204, Oajg.ntmps204
      go_wp2_with fail
      refine Calls.mono (HJ.out _) ?_
      rintro _ v1 ⟨jh, jl, hjw, rfl, hb⟩
      have HJW : Hid (Wd jh jl (smB g B)) := hjw
      have hD0 := sd_next hD hb
      have hD1 := sd_setQ hD0 (.int .u64 (jh : Int)) (.int .u64 (jl : Int))
      clear hb hD hjw
      obtain ⟨S, hS⟩ : ∃ S, S = A - smB g B := ⟨_, rfl⟩
      have HSB := hidden (wsub_ok h1 l1 jh jl A (smB g B) HA.out HJW.out hBle)
      have HCM := hidden (wcmp_ok h1 l1 jh jl HA.out.1 HA.out.2.1 HJW.out.1 HJW.out.2.1)
      obtain ⟨Z, HZ⟩ : ∃ Z, Hid (cmpZ (w128 h1 l1) (w128 jh jl) = Z) := ⟨_, rfl⟩
      have hZ : ¬ Z < 0 := by
        rw [← HZ.out, HA.out.2.2, HJW.out.2.2]; unfold cmpZ; rw [if_neg (by omega)]; split <;> decide
      rw [HZ.out] at HCM
      rw [← hS] at HSB HF
      clear hS HZ
      go_wp2_with fail
      clear hD0
      refine Calls.mono (HCM.out _) ?_
      rintro _ v5 ⟨rfl, hb⟩
      have hD5 := sd_next hD1 hb
      clear hb hD1 HCM
      go_wp2_with fail
      refine Calls.mono (HSB.out _) ?_
      rintro _ v2 ⟨sh, sl, hsw, rfl, hb⟩
      have HSW : Hid (Wd sh sl S) := hsw
      have hD8 := sd_next hD5 hb
      have hD2 := sd_setP hD8 (.int .u64 (sh : Int)) (.int .u64 (sl : Int))
      clear hb hD5
      obtain ⟨O, hO⟩ : ∃ O, O = sh ||| sl := ⟨_, rfl⟩
      have kO : bits .or .u64 (sh : Int) (sl : Int) = (O : Int) := by rw [hO]; exact u64_or_nat _ _ hsw.1 hsw.2.1
      have hO0 : O = 0 ↔ S = 0 := by rw [hO, ← hsw.2.2, Nat.or_eq_zero_iff]; unfold w128; omega
      have HJM := hidden (fun (hS0 : S ≠ 0) => jam_ok sh sl S e1 hsw hS0 (by omega) (by omega))
      have hRlt := hidden (fun (hS0 : S ≠ 0) => jamQ_lt hS0 (wd_lt hsw))
      have hbS : bitLen S ≤ 128 := bitLen_le_of_lt (n := 128) (wd_lt hsw)
      clear hO hsw
      by_cases hS0 : S = 0
      · have jO : (O : Int) = 0 := by have := hO0.2 hS0; omega
        have HF0 : Hid (F = sgnd E M (decide (mo = 4)) 0) := by show _ = _; rw [HF.out]; unfold smR; rw [if_pos hS0]
        clear hO0 HJM hRlt
        go_wp2_with fail
        clear hD8
        refine Calls.mono (HZE.out _) ?_
        rintro _ v3 ⟨rfl, hb⟩
        have hD3 := sd_next hD2 hb
        clear hb hD2
        go_wp2_with fail
        go_ret2
        exact ⟨_, by rw [HF0.out]; rfl, hD3.1.2.2.2⟩
      · have jO : ¬ (O : Int) = 0 := by have : O ≠ 0 := fun hc => hS0 (hO0.1 hc); omega
        have HF0 : Hid (F = rpN E M mo n1 (e1 + 64 - ((128 - bitLen S : Nat) : Int)) (jamQ (S * 2 ^ (128 - bitLen S)) 18446744073709551616)) := by show _ = _; rw [HF.out]; unfold smR; rw [if_neg hS0]
        have HJM2 := hidden (HJM.out hS0)
        have hJ64 := hRlt.out hS0
        obtain ⟨J, HJe⟩ : ∃ J, J = jamQ (S * 2 ^ (128 - bitLen S)) 18446744073709551616 := ⟨_, rfl⟩
        obtain ⟨X, HXe⟩ : ∃ X : Int, X = e1 + 64 - ((128 - bitLen S : Nat) : Int) := ⟨_, rfl⟩
        rw [← HJe, ← HXe] at HJM2 HF0
        rw [← HJe] at hJ64
        have HRP := hidden (roundPack_ok E M HFO.out mo n1 X J hJ64 (by omega) (by omega))
        clear hO0 HJM hRlt HJe HXe hbS
        go_wp2_with fail
        clear hD8
        refine Calls.mono (HJM2.out _) ?_
        rintro _ v3 ⟨rfl, hb⟩
        have hD3 := sd_next hD2 hb
        clear hb hD2 HJM2
        generalize rpN E M mo n1 X J = RN at *
        generalize rpF E M mo n1 X J = RF at *
        go_wp2_with fail
        refine Calls.mono (HRP.out _) ?_
        rintro _ v4 ⟨rfl, hb⟩
        have hD4 := sd_next hD3 hb
        clear hb hD3
        go_wp2_with fail
        go_ret2
        exact ⟨_, by rw [HF0.out]; rfl, hD4.1.2.2.2⟩

set_option maxRecDepth 100000 in
set_option maxHeartbeats 8000000 in
theorem sum_lt (E M : Nat) (h : FOk E M) (mo : Nat) (n1 n2 : Bool) (e1 e2 : Int) (h1 l1 h2 l2 A B : Nat) (hA : Wd h1 l1 A) (hB : Wd h2 l2 B) (hA1 : 2 ^ 126 ≤ A) (hA2 : A < 2 ^ 127) (hB1 : 2 ^ 126 ≤ B) (hB2 : B < 2 ^ 127) (r1 : -5000 < e1) (r2 : e1 < 5000) (r3 : -5000 < e2) (r4 : e2 < 5000) (hc : e1 < e2) (w : World) :
    Calls Oajg.prog 204 #[.agg #[.int .u8 (E : Int), .int .u8 (M : Int)], .int .u8 (mo : Int), .agg #[.bool n1, .int .i16 e1, .int .u64 (h1 : Int), .int .u64 (l1 : Int)], .agg #[.bool n2, .int .i16 e2, .int .u64 (h2 : Int), .int .u64 (l2 : Int)]] w fun e w' => ∃ fl, e = .returned (.tuple #[.int .u64 (smO E M mo n2 e2 B n1 e1 A : Nat), .int .u8 fl]) ∧ Below w.heap.size w w' := by
  have HFO : Hid (FOk E M) := h
  have HA : Hid (Wd h2 l2 B) := hB
  have HB : Hid (Wd h1 l1 A) := hA
  have HZE : Hid (∀ w, Calls Oajg.prog 132 #[.agg #[.int .u8 (E : Int), .int .u8 (M : Int)], .bool ((mo : Int) == 4)] w fun e w' => e = .returned (.int .u64 (sgnd E M (decide (mo = 4)) 0 : Nat)) ∧ Below w.heap.size w w') := by
    have e4 : ((mo : Int) == 4) = decide (mo = 4) := by
      by_cases hm : mo = 4
      · simp [hm]
      · have : ¬ (mo : Int) = 4 := by omega
        simp [hm, this]
    rw [e4]
    exact zeroS_ok E M h (decide (mo = 4))
  obtain ⟨MB, hMB⟩ : ∃ MB, ((mo : Int) == 4) = MB := ⟨_, rfl⟩
  rw [hMB] at HZE
  have ha1 := hA.1
  have ha2 := hA.2.1
  have hb1 := hB.1
  have hb2 := hB.2.1
  obtain ⟨g, hg⟩ : ∃ g : Nat, g = (min (e2 - e1) 255).toNat := ⟨_, rfl⟩
  have hcase : (255 < e2 - e1 ∧ g = 255) ∨ (¬ 255 < e2 - e1 ∧ (g : Int) = e2 - e1) := by omega
  have hg1 : 1 ≤ g := by omega
  have hBle : smB g A ≤ B := by
    unfold smB jamQ
    have h3 : A / 2 ^ g ≤ A / 2 := by
      refine Nat.div_le_div_left ?_ (by decide)
      exact Nat.pow_le_pow_right (n := 2) (i := 1) (j := g) (by decide) hg1
    split <;> omega
  have hBle2 : smB g A < 2 ^ 126 := by
    unfold smB jamQ
    have h3 : A / 2 ^ g ≤ A / 2 := by
      refine Nat.div_le_div_left ?_ (by decide)
      exact Nat.pow_le_pow_right (n := 2) (i := 1) (j := g) (by decide) hg1
    split <;> omega
  obtain ⟨F, HF0⟩ : ∃ F, F = smO E M mo n2 e2 B n1 e1 A := ⟨_, rfl⟩
  have HF1 : F = smR E M mo n2 e2 (smT n2 n1 B (smB g A)) := by rw [HF0, hg]; rfl
  rw [← HF0]
  have HJ : Hid (∀ w, Calls Oajg.prog 209 #[.agg #[.int .u64 (h1 : Int), .int .u64 (l1 : Int)], .int .u8 (g : Int)] w fun e w' => ∃ hi lo : Nat, Wd hi lo (smB g A) ∧ e = .returned (.agg #[.int .u64 (hi : Int), .int .u64 (lo : Int)]) ∧ Below w.heap.size w w') := shrJam_ok h1 l1 g A HB.out (by omega)
  have kc : e1 < e2 := by omega
  have kc2 : ¬ e1 = e2 := by omega
  clear h hA hB HF0 hg
  have hD := sd_made w E M (.bool n2) (.int .i16 e2) (.int .u64 (h2 : Int)) (.int .u64 (l2 : Int)) (.bool n1) (.int .i16 e1) (.int .u64 (h1 : Int)) (.int .u64 (l1 : Int))
  by_cases hs : n2 = n1
  · have HF : Hid (F = smR E M mo n2 e2 (B + smB g A)) := by show _ = _; rw [HF1]; unfold smT; rw [if_pos hs]
    clear HF1
    subst hs
    have jn : (n2 == n2) = true := by simp
    rcases hcase with ⟨hc1, rfl⟩ | ⟨hc1, hc2⟩
    · go_enter Oajg.func204, Oajg.ntmps204
      go_wp2_with fail
      refine Calls.mono (HJ.out _) ?_
      rintro _ v1 ⟨jh, jl, hjw, rfl, hb⟩
      have HJW : Hid (Wd jh jl (smB 255 A)) := hjw
      have hD0 := sd_next hD hb
      have hD1 := sd_setQ hD0 (.int .u64 (jh : Int)) (.int .u64 (jl : Int))
      clear hb hD hjw
      obtain ⟨S, hS⟩ : ∃ S, S = B + smB 255 A := ⟨_, rfl⟩
      have HAD := hidden (wadd_ok h2 l2 jh jl B (smB 255 A) HA.out HJW.out (by omega))
      rw [← hS] at HAD HF
      clear hS
      go_wp2_with fail
      clear hD0
      refine Calls.mono (HAD.out _) ?_
      rintro _ v2 ⟨sh, sl, hsw, rfl, hb⟩
      have HSW : Hid (Wd sh sl S) := hsw
      have hD8 := sd_next hD1 hb
      have hD2 := sd_setP hD8 (.int .u64 (sh : Int)) (.int .u64 (sl : Int))
      clear hb hD1
      obtain ⟨O, hO⟩ : ∃ O, O = sh ||| sl := ⟨_, rfl⟩
      have kO : bits .or .u64 (sh : Int) (sl : Int) = (O : Int) := by rw [hO]; exact u64_or_nat _ _ hsw.1 hsw.2.1
      have hO0 : O = 0 ↔ S = 0 := by rw [hO, ← hsw.2.2, Nat.or_eq_zero_iff]; unfold w128; omega
      have HJM := hidden (fun (hS0 : S ≠ 0) => jam_ok sh sl S e2 hsw hS0 (by omega) (by omega))
      have hRlt := hidden (fun (hS0 : S ≠ 0) => jamQ_lt hS0 (wd_lt hsw))
      have hbS : bitLen S ≤ 128 := bitLen_le_of_lt (n := 128) (wd_lt hsw)
      clear hO hsw
      by_cases hS0 : S = 0
      · have jO : (O : Int) = 0 := by have := hO0.2 hS0; omega
        have HF0 : Hid (F = sgnd E M (decide (mo = 4)) 0) := by show _ = _; rw [HF.out]; unfold smR; rw [if_pos hS0]
        clear hO0 HJM hRlt
        go_wp2_with fail
        clear hD8
        refine Calls.mono (HZE.out _) ?_
        rintro _ v3 ⟨rfl, hb⟩
        have hD3 := sd_next hD2 hb
        clear hb hD2
        go_wp2_with fail
        go_ret2
        exact ⟨_, by rw [HF0.out]; rfl, hD3.1.2.2.2⟩
      · have jO : ¬ (O : Int) = 0 := by have : O ≠ 0 := fun hc => hS0 (hO0.1 hc); omega
        have HF0 : Hid (F = rpN E M mo n2 (e2 + 64 - ((128 - bitLen S : Nat) : Int)) (jamQ (S * 2 ^ (128 - bitLen S)) 18446744073709551616)) := by show _ = _; rw [HF.out]; unfold smR; rw [if_neg hS0]
        have HJM2 := hidden (HJM.out hS0)
        have hJ64 := hRlt.out hS0
        obtain ⟨J, HJe⟩ : ∃ J, J = jamQ (S * 2 ^ (128 - bitLen S)) 18446744073709551616 := ⟨_, rfl⟩
        obtain ⟨X, HXe⟩ : ∃ X : Int, X = e2 + 64 - ((128 - bitLen S : Nat) : Int) := ⟨_, rfl⟩
        rw [← HJe, ← HXe] at HJM2 HF0
        rw [← HJe] at hJ64
        have HRP := hidden (roundPack_ok E M HFO.out mo n2 X J hJ64 (by omega) (by omega))
        clear hO0 HJM hRlt HJe HXe hbS
        go_wp2_with fail
        clear hD8
        refine Calls.mono (HJM2.out _) ?_
        rintro _ v3 ⟨rfl, hb⟩
        have hD3 := sd_next hD2 hb
        clear hb hD2 HJM2
        generalize rpN E M mo n2 X J = RN at *
        generalize rpF E M mo n2 X J = RF at *
        go_wp2_with fail
        refine Calls.mono (HRP.out _) ?_
        rintro _ v4 ⟨rfl, hb⟩
        have hD4 := sd_next hD3 hb
        clear hb hD3
        go_wp2_with fail
        go_ret2
        exact ⟨_, by rw [HF0.out]; rfl, hD4.1.2.2.2⟩
    · have kg : e2 - e1 = (g : Int) := hc2.symm
      have kg2 : ¬ (255 : Int) < (g : Int) := by omega
      have kg3 : g ≤ 255 := by omega
      clear hc1 hc2
      go_enter Oajg.func204, Oajg.ntmps204
      go_wp2_with fail
      refine Calls.mono (HJ.out _) ?_
      rintro _ v1 ⟨jh, jl, hjw, rfl, hb⟩
      have HJW : Hid (Wd jh jl (smB g A)) := hjw
      have hD0 := sd_next hD hb
      have hD1 := sd_setQ hD0 (.int .u64 (jh : Int)) (.int .u64 (jl : Int))
      clear hb hD hjw
      obtain ⟨S, hS⟩ : ∃ S, S = B + smB g A := ⟨_, rfl⟩
      have HAD := hidden (wadd_ok h2 l2 jh jl B (smB g A) HA.out HJW.out (by omega))
      rw [← hS] at HAD HF
      clear hS
      go_wp2_with fail
      clear hD0
      refine Calls.mono (HAD.out _) ?_
      rintro _ v2 ⟨sh, sl, hsw, rfl, hb⟩
      have HSW : Hid (Wd sh sl S) := hsw
      have hD8 := sd_next hD1 hb
      have hD2 := sd_setP hD8 (.int .u64 (sh : Int)) (.int .u64 (sl : Int))
      clear hb hD1
      obtain ⟨O, hO⟩ : ∃ O, O = sh ||| sl := ⟨_, rfl⟩
      have kO : bits .or .u64 (sh : Int) (sl : Int) = (O : Int) := by rw [hO]; exact u64_or_nat _ _ hsw.1 hsw.2.1
      have hO0 : O = 0 ↔ S = 0 := by rw [hO, ← hsw.2.2, Nat.or_eq_zero_iff]; unfold w128; omega
      have HJM := hidden (fun (hS0 : S ≠ 0) => jam_ok sh sl S e2 hsw hS0 (by omega) (by omega))
      have hRlt := hidden (fun (hS0 : S ≠ 0) => jamQ_lt hS0 (wd_lt hsw))
      have hbS : bitLen S ≤ 128 := bitLen_le_of_lt (n := 128) (wd_lt hsw)
      clear hO hsw
      by_cases hS0 : S = 0
      · have jO : (O : Int) = 0 := by have := hO0.2 hS0; omega
        have HF0 : Hid (F = sgnd E M (decide (mo = 4)) 0) := by show _ = _; rw [HF.out]; unfold smR; rw [if_pos hS0]
        clear hO0 HJM hRlt
        go_wp2_with fail
        clear hD8
        refine Calls.mono (HZE.out _) ?_
        rintro _ v3 ⟨rfl, hb⟩
        have hD3 := sd_next hD2 hb
        clear hb hD2
        go_wp2_with fail
        go_ret2
        exact ⟨_, by rw [HF0.out]; rfl, hD3.1.2.2.2⟩
      · have jO : ¬ (O : Int) = 0 := by have : O ≠ 0 := fun hc => hS0 (hO0.1 hc); omega
        have HF0 : Hid (F = rpN E M mo n2 (e2 + 64 - ((128 - bitLen S : Nat) : Int)) (jamQ (S * 2 ^ (128 - bitLen S)) 18446744073709551616)) := by show _ = _; rw [HF.out]; unfold smR; rw [if_neg hS0]
        have HJM2 := hidden (HJM.out hS0)
        have hJ64 := hRlt.out hS0
        obtain ⟨J, HJe⟩ : ∃ J, J = jamQ (S * 2 ^ (128 - bitLen S)) 18446744073709551616 := ⟨_, rfl⟩
        obtain ⟨X, HXe⟩ : ∃ X : Int, X = e2 + 64 - ((128 - bitLen S : Nat) : Int) := ⟨_, rfl⟩
        rw [← HJe, ← HXe] at HJM2 HF0
        rw [← HJe] at hJ64
        have HRP := hidden (roundPack_ok E M HFO.out mo n2 X J hJ64 (by omega) (by omega))
        clear hO0 HJM hRlt HJe HXe hbS
        go_wp2_with fail
        clear hD8
        refine Calls.mono (HJM2.out _) ?_
        rintro _ v3 ⟨rfl, hb⟩
        have hD3 := sd_next hD2 hb
        clear hb hD2 HJM2
        generalize rpN E M mo n2 X J = RN at *
        generalize rpF E M mo n2 X J = RF at *
        go_wp2_with fail
        refine Calls.mono (HRP.out _) ?_
        rintro _ v4 ⟨rfl, hb⟩
        have hD4 := sd_next hD3 hb
        clear hb hD3
        go_wp2_with fail
        go_ret2
        exact ⟨_, by rw [HF0.out]; rfl, hD4.1.2.2.2⟩
  · have HF : Hid (F = smR E M mo n2 e2 (B - smB g A)) := by show _ = _; rw [HF1]; unfold smT; rw [if_neg hs]
    clear HF1
    have jn : (n1 == n2) = false := by cases n1 <;> cases n2 <;> simp_all
    have jn2 : (n2 == n1) = false := by cases n1 <;> cases n2 <;> simp_all
    rcases hcase with ⟨hc1, rfl⟩ | ⟨hc1, hc2⟩
    · go_enter Oajg.func204, Oajg.ntmps204
      go_wp2_with fail
      refine Calls.mono (HJ.out _) ?_
      rintro _ v1 ⟨jh, jl, hjw, rfl, hb⟩
      have HJW : Hid (Wd jh jl (smB 255 A)) := hjw
      have hD0 := sd_next hD hb
      have hD1 := sd_setQ hD0 (.int .u64 (jh : Int)) (.int .u64 (jl : Int))
      clear hb hD hjw
      obtain ⟨S, hS⟩ : ∃ S, S = B - smB 255 A := ⟨_, rfl⟩
      have HSB := hidden (wsub_ok h2 l2 jh jl B (smB 255 A) HA.out HJW.out hBle)
      have HCM := hidden (wcmp_ok h2 l2 jh jl HA.out.1 HA.out.2.1 HJW.out.1 HJW.out.2.1)
      obtain ⟨Z, HZ⟩ : ∃ Z, Hid (cmpZ (w128 h2 l2) (w128 jh jl) = Z) := ⟨_, rfl⟩
      have hZ : ¬ Z < 0 := by
        rw [← HZ.out, HA.out.2.2, HJW.out.2.2]; unfold cmpZ; rw [if_neg (by omega)]; split <;> decide
      rw [HZ.out] at HCM
      rw [← hS] at HSB HF
      clear hS HZ
      go_wp2_with fail
      clear hD0
      refine Calls.mono (HCM.out _) ?_
      rintro _ v5 ⟨rfl, hb⟩
      have hD5 := sd_next hD1 hb
      clear hb hD1 HCM
      go_wp2_with fail
      refine Calls.mono (HSB.out _) ?_
      rintro _ v2 ⟨sh, sl, hsw, rfl, hb⟩
      have HSW : Hid (Wd sh sl S) := hsw
      have hD8 := sd_next hD5 hb
      have hD2 := sd_setP hD8 (.int .u64 (sh : Int)) (.int .u64 (sl : Int))
      clear hb hD5
      obtain ⟨O, hO⟩ : ∃ O, O = sh ||| sl := ⟨_, rfl⟩
      have kO : bits .or .u64 (sh : Int) (sl : Int) = (O : Int) := by rw [hO]; exact u64_or_nat _ _ hsw.1 hsw.2.1
      have hO0 : O = 0 ↔ S = 0 := by rw [hO, ← hsw.2.2, Nat.or_eq_zero_iff]; unfold w128; omega
      have HJM := hidden (fun (hS0 : S ≠ 0) => jam_ok sh sl S e2 hsw hS0 (by omega) (by omega))
      have hRlt := hidden (fun (hS0 : S ≠ 0) => jamQ_lt hS0 (wd_lt hsw))
      have hbS : bitLen S ≤ 128 := bitLen_le_of_lt (n := 128) (wd_lt hsw)
      clear hO hsw
      by_cases hS0 : S = 0
      · have jO : (O : Int) = 0 := by have := hO0.2 hS0; omega
        have HF0 : Hid (F = sgnd E M (decide (mo = 4)) 0) := by show _ = _; rw [HF.out]; unfold smR; rw [if_pos hS0]
        clear hO0 HJM hRlt
        go_wp2_with fail
        clear hD8
        refine Calls.mono (HZE.out _) ?_
        rintro _ v3 ⟨rfl, hb⟩
        have hD3 := sd_next hD2 hb
        clear hb hD2
        go_wp2_with fail
        go_ret2
        exact ⟨_, by rw [HF0.out]; rfl, hD3.1.2.2.2⟩
      · have jO : ¬ (O : Int) = 0 := by have : O ≠ 0 := fun hc => hS0 (hO0.1 hc); omega
        have HF0 : Hid (F = rpN E M mo n2 (e2 + 64 - ((128 - bitLen S : Nat) : Int)) (jamQ (S * 2 ^ (128 - bitLen S)) 18446744073709551616)) := by show _ = _; rw [HF.out]; unfold smR; rw [if_neg hS0]
        have HJM2 := hidden (HJM.out hS0)
        have hJ64 := hRlt.out hS0
        obtain ⟨J, HJe⟩ : ∃ J, J = jamQ (S * 2 ^ (128 - bitLen S)) 18446744073709551616 := ⟨_, rfl⟩
        obtain ⟨X, HXe⟩ : ∃ X : Int, X = e2 + 64 - ((128 - bitLen S : Nat) : Int) := ⟨_, rfl⟩
        rw [← HJe, ← HXe] at HJM2 HF0
        rw [← HJe] at hJ64
        have HRP := hidden (roundPack_ok E M HFO.out mo n2 X J hJ64 (by omega) (by omega))
        clear hO0 HJM hRlt HJe HXe hbS
        go_wp2_with fail
        clear hD8
        refine Calls.mono (HJM2.out _) ?_
        rintro _ v3 ⟨rfl, hb⟩
        have hD3 := sd_next hD2 hb
        clear hb hD2 HJM2
        generalize rpN E M mo n2 X J = RN at *
        generalize rpF E M mo n2 X J = RF at *
        go_wp2_with fail
        refine Calls.mono (HRP.out _) ?_
        rintro _ v4 ⟨rfl, hb⟩
        have hD4 := sd_next hD3 hb
        clear hb hD3
        go_wp2_with fail
        go_ret2
        exact ⟨_, by rw [HF0.out]; rfl, hD4.1.2.2.2⟩
    · have kg : e2 - e1 = (g : Int) := hc2.symm
      have kg2 : ¬ (255 : Int) < (g : Int) := by omega
      have kg3 : g ≤ 255 := by omega
      clear hc1 hc2
      go_enter Oajg.func204, Oajg.ntmps204
      go_wp2_with fail
      refine Calls.mono (HJ.out _) ?_
      rintro _ v1 ⟨jh, jl, hjw, rfl, hb⟩
      have HJW : Hid (Wd jh jl (smB g A)) := hjw
      have hD0 := sd_next hD hb
      have hD1 := sd_setQ hD0 (.int .u64 (jh : Int)) (.int .u64 (jl : Int))
      clear hb hD hjw
      obtain ⟨S, hS⟩ : ∃ S, S = B - smB g A := ⟨_, rfl⟩
      have HSB := hidden (wsub_ok h2 l2 jh jl B (smB g A) HA.out HJW.out hBle)
      have HCM := hidden (wcmp_ok h2 l2 jh jl HA.out.1 HA.out.2.1 HJW.out.1 HJW.out.2.1)
      obtain ⟨Z, HZ⟩ : ∃ Z, Hid (cmpZ (w128 h2 l2) (w128 jh jl) = Z) := ⟨_, rfl⟩
      have hZ : ¬ Z < 0 := by
        rw [← HZ.out, HA.out.2.2, HJW.out.2.2]; unfold cmpZ; rw [if_neg (by omega)]; split <;> decide
      rw [HZ.out] at HCM
      rw [← hS] at HSB HF
      clear hS HZ
      go_wp2_with fail
      clear hD0
      refine Calls.mono (HCM.out _) ?_
      rintro _ v5 ⟨rfl, hb⟩
      have hD5 := sd_next hD1 hb
      clear hb hD1 HCM
      go_wp2_with fail
      refine Calls.mono (HSB.out _) ?_
      rintro _ v2 ⟨sh, sl, hsw, rfl, hb⟩
      have HSW : Hid (Wd sh sl S) := hsw
      have hD8 := sd_next hD5 hb
      have hD2 := sd_setP hD8 (.int .u64 (sh : Int)) (.int .u64 (sl : Int))
      clear hb hD5
      obtain ⟨O, hO⟩ : ∃ O, O = sh ||| sl := ⟨_, rfl⟩
      have kO : bits .or .u64 (sh : Int) (sl : Int) = (O : Int) := by rw [hO]; exact u64_or_nat _ _ hsw.1 hsw.2.1
      have hO0 : O = 0 ↔ S = 0 := by rw [hO, ← hsw.2.2, Nat.or_eq_zero_iff]; unfold w128; omega
      have HJM := hidden (fun (hS0 : S ≠ 0) => jam_ok sh sl S e2 hsw hS0 (by omega) (by omega))
      have hRlt := hidden (fun (hS0 : S ≠ 0) => jamQ_lt hS0 (wd_lt hsw))
      have hbS : bitLen S ≤ 128 := bitLen_le_of_lt (n := 128) (wd_lt hsw)
      clear hO hsw
      by_cases hS0 : S = 0
      · have jO : (O : Int) = 0 := by have := hO0.2 hS0; omega
        have HF0 : Hid (F = sgnd E M (decide (mo = 4)) 0) := by show _ = _; rw [HF.out]; unfold smR; rw [if_pos hS0]
        clear hO0 HJM hRlt
        go_wp2_with fail
        clear hD8
        refine Calls.mono (HZE.out _) ?_
        rintro _ v3 ⟨rfl, hb⟩
        have hD3 := sd_next hD2 hb
        clear hb hD2
        go_wp2_with fail
        go_ret2
        exact ⟨_, by rw [HF0.out]; rfl, hD3.1.2.2.2⟩
      · have jO : ¬ (O : Int) = 0 := by have : O ≠ 0 := fun hc => hS0 (hO0.1 hc); omega
        have HF0 : Hid (F = rpN E M mo n2 (e2 + 64 - ((128 - bitLen S : Nat) : Int)) (jamQ (S * 2 ^ (128 - bitLen S)) 18446744073709551616)) := by show _ = _; rw [HF.out]; unfold smR; rw [if_neg hS0]
        have HJM2 := hidden (HJM.out hS0)
        have hJ64 := hRlt.out hS0
        obtain ⟨J, HJe⟩ : ∃ J, J = jamQ (S * 2 ^ (128 - bitLen S)) 18446744073709551616 := ⟨_, rfl⟩
        obtain ⟨X, HXe⟩ : ∃ X : Int, X = e2 + 64 - ((128 - bitLen S : Nat) : Int) := ⟨_, rfl⟩
        rw [← HJe, ← HXe] at HJM2 HF0
        rw [← HJe] at hJ64
        have HRP := hidden (roundPack_ok E M HFO.out mo n2 X J hJ64 (by omega) (by omega))
        clear hO0 HJM hRlt HJe HXe hbS
        go_wp2_with fail
        clear hD8
        refine Calls.mono (HJM2.out _) ?_
        rintro _ v3 ⟨rfl, hb⟩
        have hD3 := sd_next hD2 hb
        clear hb hD2 HJM2
        generalize rpN E M mo n2 X J = RN at *
        generalize rpF E M mo n2 X J = RF at *
        go_wp2_with fail
        refine Calls.mono (HRP.out _) ?_
        rintro _ v4 ⟨rfl, hb⟩
        have hD4 := sd_next hD3 hb
        clear hb hD3
        go_wp2_with fail
        go_ret2
        exact ⟨_, by rw [HF0.out]; rfl, hD4.1.2.2.2⟩

set_option maxRecDepth 100000 in
set_option maxHeartbeats 8000000 in
theorem sum_eq (E M : Nat) (h : FOk E M) (mo : Nat) (n1 n2 : Bool) (e1 e2 : Int) (h1 l1 h2 l2 A B : Nat) (hA : Wd h1 l1 A) (hB : Wd h2 l2 B) (hA1 : 2 ^ 126 ≤ A) (hA2 : A < 2 ^ 127) (hB1 : 2 ^ 126 ≤ B) (hB2 : B < 2 ^ 127) (r1 : -5000 < e1) (r2 : e1 < 5000) (r3 : -5000 < e2) (r4 : e2 < 5000) (hc : e1 = e2) (hAB : B ≤ A) (w : World) :
    Calls Oajg.prog 204 #[.agg #[.int .u8 (E : Int), .int .u8 (M : Int)], .int .u8 (mo : Int), .agg #[.bool n1, .int .i16 e1, .int .u64 (h1 : Int), .int .u64 (l1 : Int)], .agg #[.bool n2, .int .i16 e2, .int .u64 (h2 : Int), .int .u64 (l2 : Int)]] w fun e w' => ∃ fl, e = .returned (.tuple #[.int .u64 (smO E M mo n1 e1 A n2 e2 B : Nat), .int .u8 fl]) ∧ Below w.heap.size w w' := by
  have HFO : Hid (FOk E M) := h
  have HA : Hid (Wd h1 l1 A) := hA
  have HB : Hid (Wd h2 l2 B) := hB
  have HZE : Hid (∀ w, Calls Oajg.prog 132 #[.agg #[.int .u8 (E : Int), .int .u8 (M : Int)], .bool ((mo : Int) == 4)] w fun e w' => e = .returned (.int .u64 (sgnd E M (decide (mo = 4)) 0 : Nat)) ∧ Below w.heap.size w w') := by
    have e4 : ((mo : Int) == 4) = decide (mo = 4) := by
      by_cases hm : mo = 4
      · simp [hm]
      · have : ¬ (mo : Int) = 4 := by omega
        simp [hm, this]
    rw [e4]
    exact zeroS_ok E M h (decide (mo = 4))
  obtain ⟨MB, hMB⟩ : ∃ MB, ((mo : Int) == 4) = MB := ⟨_, rfl⟩
  rw [hMB] at HZE
  have ha1 := hA.1
  have ha2 := hA.2.1
  have hb1 := hB.1
  have hb2 := hB.2.1
  subst hc
  have hB0 : smB 0 B = B := by unfold smB jamQ; rw [if_pos (by rw [Nat.pow_zero]; exact Nat.mod_one _), Nat.pow_zero, Nat.div_one]
  have hBle : smB 0 B ≤ A := by rw [hB0]; omega
  have hBle2 : smB 0 B < 2 ^ 127 := by rw [hB0]; omega
  obtain ⟨F, HF0⟩ : ∃ F, F = smO E M mo n1 e1 A n2 e1 B := ⟨_, rfl⟩
  have HF1 : F = smR E M mo n1 e1 (smT n1 n2 A (smB 0 B)) := by
    have e0 : (min (e1 - e1) 255).toNat = 0 := by omega
    rw [HF0]; unfold smO; rw [e0]
  rw [← HF0]
  have HJ : Hid (∀ w, Calls Oajg.prog 209 #[.agg #[.int .u64 (h2 : Int), .int .u64 (l2 : Int)], .int .u8 0] w fun e w' => ∃ hi lo : Nat, Wd hi lo (smB 0 B) ∧ e = .returned (.agg #[.int .u64 (hi : Int), .int .u64 (lo : Int)]) ∧ Below w.heap.size w w') := shrJam_ok h2 l2 0 B HB.out (by omega)
  have HC1 := hidden (wcmp_ok h1 l1 h2 l2 hA.1 hA.2.1 hB.1 hB.2.1)
  rw [hA.2.2, hB.2.2] at HC1
  obtain ⟨Z1, HZ1⟩ : ∃ Z, cmpZ A B = Z := ⟨_, rfl⟩
  have hZ1 : ¬ Z1 < 0 := by
    rw [← HZ1]; unfold cmpZ
    rw [if_neg (by omega)]; split <;> decide
  rw [HZ1] at HC1
  have kc : ¬ e1 < e1 := by omega
  clear h hA hB HF0 HZ1 hB0
  have hD0 := sd_made w E M (.bool n1) (.int .i16 e1) (.int .u64 (h1 : Int)) (.int .u64 (l1 : Int)) (.bool n2) (.int .i16 e1) (.int .u64 (h2 : Int)) (.int .u64 (l2 : Int))
  by_cases hs : n1 = n2
  · have HF : Hid (F = smR E M mo n1 e1 (A + smB 0 B)) := by show _ = _; rw [HF1]; unfold smT; rw [if_pos hs]
    clear HF1
    subst hs
    have jn : (n1 == n1) = true := by simp
    go_enter Oajg.func204, Oajg.ntmps204
    go_wp2_with fail
    refine Calls.mono (HC1.out _) ?_
    rintro _ v0 ⟨rfl, hb⟩
    have hD9 := sd_next hD0 hb
    have hD := hD9
    clear hb hD0
    go_wp2_with fail
    clear hD9
    refine Calls.mono (HJ.out _) ?_
    rintro _ v1 ⟨jh, jl, hjw, rfl, hb⟩
    have HJW : Hid (Wd jh jl (smB 0 B)) := hjw
    have hD0 := sd_next hD hb
    have hD1 := sd_setQ hD0 (.int .u64 (jh : Int)) (.int .u64 (jl : Int))
    clear hb hD hjw
    obtain ⟨S, hS⟩ : ∃ S, S = A + smB 0 B := ⟨_, rfl⟩
    have HAD := hidden (wadd_ok h1 l1 jh jl A (smB 0 B) HA.out HJW.out (by omega))
    rw [← hS] at HAD HF
    clear hS
    go_wp2_with fail
    clear hD0
    refine Calls.mono (HAD.out _) ?_
    rintro _ v2 ⟨sh, sl, hsw, rfl, hb⟩
    have HSW : Hid (Wd sh sl S) := hsw
    have hD8 := sd_next hD1 hb
    have hD2 := sd_setP hD8 (.int .u64 (sh : Int)) (.int .u64 (sl : Int))
    clear hb hD1
    obtain ⟨O, hO⟩ : ∃ O, O = sh ||| sl := ⟨_, rfl⟩
    have kO : bits .or .u64 (sh : Int) (sl : Int) = (O : Int) := by rw [hO]; exact u64_or_nat _ _ hsw.1 hsw.2.1
    have hO0 : O = 0 ↔ S = 0 := by rw [hO, ← hsw.2.2, Nat.or_eq_zero_iff]; unfold w128; omega
    have HJM := hidden (fun (hS0 : S ≠ 0) => jam_ok sh sl S e1 hsw hS0 (by omega) (by omega))
    have hRlt := hidden (fun (hS0 : S ≠ 0) => jamQ_lt hS0 (wd_lt hsw))
    have hbS : bitLen S ≤ 128 := bitLen_le_of_lt (n := 128) (wd_lt hsw)
    clear hO hsw
    by_cases hS0 : S = 0
    · have jO : (O : Int) = 0 := by have := hO0.2 hS0; omega
      have HF0 : Hid (F = sgnd E M (decide (mo = 4)) 0) := by show _ = _; rw [HF.out]; unfold smR; rw [if_pos hS0]
      clear hO0 HJM hRlt
      go_wp2_with fail
      clear hD8
      refine Calls.mono (HZE.out _) ?_
      rintro _ v3 ⟨rfl, hb⟩
      have hD3 := sd_next hD2 hb
      clear hb hD2
      go_wp2_with fail
      go_ret2
      exact ⟨_, by rw [HF0.out]; rfl, hD3.1.2.2.2⟩
    · have jO : ¬ (O : Int) = 0 := by have : O ≠ 0 := fun hc => hS0 (hO0.1 hc); omega
      have HF0 : Hid (F = rpN E M mo n1 (e1 + 64 - ((128 - bitLen S : Nat) : Int)) (jamQ (S * 2 ^ (128 - bitLen S)) 18446744073709551616)) := by show _ = _; rw [HF.out]; unfold smR; rw [if_neg hS0]
      have HJM2 := hidden (HJM.out hS0)
      have hJ64 := hRlt.out hS0
      obtain ⟨J, HJe⟩ : ∃ J, J = jamQ (S * 2 ^ (128 - bitLen S)) 18446744073709551616 := ⟨_, rfl⟩
      obtain ⟨X, HXe⟩ : ∃ X : Int, X = e1 + 64 - ((128 - bitLen S : Nat) : Int) := ⟨_, rfl⟩
      rw [← HJe, ← HXe] at HJM2 HF0
      rw [← HJe] at hJ64
      have HRP := hidden (roundPack_ok E M HFO.out mo n1 X J hJ64 (by omega) (by omega))
      clear hO0 HJM hRlt HJe HXe hbS
      go_wp2_with fail
      clear hD8
      refine Calls.mono (HJM2.out _) ?_
      rintro _ v3 ⟨rfl, hb⟩
      have hD3 := sd_next hD2 hb
      clear hb hD2 HJM2
      generalize rpN E M mo n1 X J = RN at *
      generalize rpF E M mo n1 X J = RF at *
      go_wp2_with fail
      refine Calls.mono (HRP.out _) ?_
      rintro _ v4 ⟨rfl, hb⟩
      have hD4 := sd_next hD3 hb
      clear hb hD3
      go_wp2_with fail
      go_ret2
      exact ⟨_, by rw [HF0.out]; rfl, hD4.1.2.2.2⟩
  · have HF : Hid (F = smR E M mo n1 e1 (A - smB 0 B)) := by show _ = _; rw [HF1]; unfold smT; rw [if_neg hs]
    clear HF1
    have jn : (n1 == n2) = false := by cases n1 <;> cases n2 <;> simp_all
    have jn2 : (n2 == n1) = false := by cases n1 <;> cases n2 <;> simp_all
    go_enter Oajg.func204, Oajg.ntmps204
    go_wp2_with fail
    refine Calls.mono (HC1.out _) ?_
    rintro _ v0 ⟨rfl, hb⟩
    have hD9 := sd_next hD0 hb
    have hD := hD9
    clear hb hD0
    go_wp2_with fail
    clear hD9
    refine Calls.mono (HJ.out _) ?_
    rintro _ v1 ⟨jh, jl, hjw, rfl, hb⟩
    have HJW : Hid (Wd jh jl (smB 0 B)) := hjw
    have hD0 := sd_next hD hb
    have hD1 := sd_setQ hD0 (.int .u64 (jh : Int)) (.int .u64 (jl : Int))
    clear hb hD hjw
    obtain ⟨S, hS⟩ : ∃ S, S = A - smB 0 B := ⟨_, rfl⟩
    have HSB := hidden (wsub_ok h1 l1 jh jl A (smB 0 B) HA.out HJW.out hBle)
    have HCM := hidden (wcmp_ok h1 l1 jh jl HA.out.1 HA.out.2.1 HJW.out.1 HJW.out.2.1)
    obtain ⟨Z, HZ⟩ : ∃ Z, Hid (cmpZ (w128 h1 l1) (w128 jh jl) = Z) := ⟨_, rfl⟩
    have hZ : ¬ Z < 0 := by
      rw [← HZ.out, HA.out.2.2, HJW.out.2.2]; unfold cmpZ; rw [if_neg (by omega)]; split <;> decide
    rw [HZ.out] at HCM
    rw [← hS] at HSB HF
    clear hS HZ
    go_wp2_with fail
    clear hD0
    refine Calls.mono (HCM.out _) ?_
    rintro _ v5 ⟨rfl, hb⟩
    have hD5 := sd_next hD1 hb
    clear hb hD1 HCM
    go_wp2_with fail
    refine Calls.mono (HSB.out _) ?_
    rintro _ v2 ⟨sh, sl, hsw, rfl, hb⟩
    have HSW : Hid (Wd sh sl S) := hsw
    have hD8 := sd_next hD5 hb
    have hD2 := sd_setP hD8 (.int .u64 (sh : Int)) (.int .u64 (sl : Int))
    clear hb hD5
    obtain ⟨O, hO⟩ : ∃ O, O = sh ||| sl := ⟨_, rfl⟩
    have kO : bits .or .u64 (sh : Int) (sl : Int) = (O : Int) := by rw [hO]; exact u64_or_nat _ _ hsw.1 hsw.2.1
    have hO0 : O = 0 ↔ S = 0 := by rw [hO, ← hsw.2.2, Nat.or_eq_zero_iff]; unfold w128; omega
    have HJM := hidden (fun (hS0 : S ≠ 0) => jam_ok sh sl S e1 hsw hS0 (by omega) (by omega))
    have hRlt := hidden (fun (hS0 : S ≠ 0) => jamQ_lt hS0 (wd_lt hsw))
    have hbS : bitLen S ≤ 128 := bitLen_le_of_lt (n := 128) (wd_lt hsw)
    clear hO hsw
    by_cases hS0 : S = 0
    · have jO : (O : Int) = 0 := by have := hO0.2 hS0; omega
      have HF0 : Hid (F = sgnd E M (decide (mo = 4)) 0) := by show _ = _; rw [HF.out]; unfold smR; rw [if_pos hS0]
      clear hO0 HJM hRlt
      go_wp2_with fail
      clear hD8
      refine Calls.mono (HZE.out _) ?_
      rintro _ v3 ⟨rfl, hb⟩
      have hD3 := sd_next hD2 hb
      clear hb hD2
      go_wp2_with fail
      go_ret2
      exact ⟨_, by rw [HF0.out]; rfl, hD3.1.2.2.2⟩
    · have jO : ¬ (O : Int) = 0 := by have : O ≠ 0 := fun hc => hS0 (hO0.1 hc); omega
      have HF0 : Hid (F = rpN E M mo n1 (e1 + 64 - ((128 - bitLen S : Nat) : Int)) (jamQ (S * 2 ^ (128 - bitLen S)) 18446744073709551616)) := by show _ = _; rw [HF.out]; unfold smR; rw [if_neg hS0]
      have HJM2 := hidden (HJM.out hS0)
      have hJ64 := hRlt.out hS0
      obtain ⟨J, HJe⟩ : ∃ J, J = jamQ (S * 2 ^ (128 - bitLen S)) 18446744073709551616 := ⟨_, rfl⟩
      obtain ⟨X, HXe⟩ : ∃ X : Int, X = e1 + 64 - ((128 - bitLen S : Nat) : Int) := ⟨_, rfl⟩
      rw [← HJe, ← HXe] at HJM2 HF0
      rw [← HJe] at hJ64
      have HRP := hidden (roundPack_ok E M HFO.out mo n1 X J hJ64 (by omega) (by omega))
      clear hO0 HJM hRlt HJe HXe hbS
      go_wp2_with fail
      clear hD8
      refine Calls.mono (HJM2.out _) ?_
      rintro _ v3 ⟨rfl, hb⟩
      have hD3 := sd_next hD2 hb
      clear hb hD2 HJM2
      generalize rpN E M mo n1 X J = RN at *
      generalize rpF E M mo n1 X J = RF at *
      go_wp2_with fail
      refine Calls.mono (HRP.out _) ?_
      rintro _ v4 ⟨rfl, hb⟩
      have hD4 := sd_next hD3 hb
      clear hb hD3
      go_wp2_with fail
      go_ret2
      exact ⟨_, by rw [HF0.out]; rfl, hD4.1.2.2.2⟩

set_option maxRecDepth 100000 in
set_option maxHeartbeats 8000000 in
theorem sum_eqs (E M : Nat) (h : FOk E M) (mo : Nat) (n1 n2 : Bool) (e1 e2 : Int) (h1 l1 h2 l2 A B : Nat) (hA : Wd h1 l1 A) (hB : Wd h2 l2 B) (hA1 : 2 ^ 126 ≤ A) (hA2 : A < 2 ^ 127) (hB1 : 2 ^ 126 ≤ B) (hB2 : B < 2 ^ 127) (r1 : -5000 < e1) (r2 : e1 < 5000) (r3 : -5000 < e2) (r4 : e2 < 5000) (hc : e1 = e2) (hAB : A < B) (w : World) :
    Calls Oajg.prog 204 #[.agg #[.int .u8 (E : Int), .int .u8 (M : Int)], .int .u8 (mo : Int), .agg #[.bool n1, .int .i16 e1, .int .u64 (h1 : Int), .int .u64 (l1 : Int)], .agg #[.bool n2, .int .i16 e2, .int .u64 (h2 : Int), .int .u64 (l2 : Int)]] w fun e w' => ∃ fl, e = .returned (.tuple #[.int .u64 (smO E M mo n2 e2 B n1 e1 A : Nat), .int .u8 fl]) ∧ Below w.heap.size w w' := by
  have HFO : Hid (FOk E M) := h
  have HA : Hid (Wd h2 l2 B) := hB
  have HB : Hid (Wd h1 l1 A) := hA
  have HZE : Hid (∀ w, Calls Oajg.prog 132 #[.agg #[.int .u8 (E : Int), .int .u8 (M : Int)], .bool ((mo : Int) == 4)] w fun e w' => e = .returned (.int .u64 (sgnd E M (decide (mo = 4)) 0 : Nat)) ∧ Below w.heap.size w w') := by
    have e4 : ((mo : Int) == 4) = decide (mo = 4) := by
      by_cases hm : mo = 4
      · simp [hm]
      · have : ¬ (mo : Int) = 4 := by omega
        simp [hm, this]
    rw [e4]
    exact zeroS_ok E M h (decide (mo = 4))
  obtain ⟨MB, hMB⟩ : ∃ MB, ((mo : Int) == 4) = MB := ⟨_, rfl⟩
  rw [hMB] at HZE
  have ha1 := hA.1
  have ha2 := hA.2.1
  have hb1 := hB.1
  have hb2 := hB.2.1
  subst hc
  have hB0 : smB 0 A = A := by unfold smB jamQ; rw [if_pos (by rw [Nat.pow_zero]; exact Nat.mod_one _), Nat.pow_zero, Nat.div_one]
  have hBle : smB 0 A ≤ B := by rw [hB0]; omega
  have hBle2 : smB 0 A < 2 ^ 127 := by rw [hB0]; omega
  obtain ⟨F, HF0⟩ : ∃ F, F = smO E M mo n2 e1 B n1 e1 A := ⟨_, rfl⟩
  have HF1 : F = smR E M mo n2 e1 (smT n2 n1 B (smB 0 A)) := by
    have e0 : (min (e1 - e1) 255).toNat = 0 := by omega
    rw [HF0]; unfold smO; rw [e0]
  rw [← HF0]
  have HJ : Hid (∀ w, Calls Oajg.prog 209 #[.agg #[.int .u64 (h1 : Int), .int .u64 (l1 : Int)], .int .u8 0] w fun e w' => ∃ hi lo : Nat, Wd hi lo (smB 0 A) ∧ e = .returned (.agg #[.int .u64 (hi : Int), .int .u64 (lo : Int)]) ∧ Below w.heap.size w w') := shrJam_ok h1 l1 0 A HB.out (by omega)
  have HC1 := hidden (wcmp_ok h1 l1 h2 l2 hA.1 hA.2.1 hB.1 hB.2.1)
  rw [hA.2.2, hB.2.2] at HC1
  obtain ⟨Z1, HZ1⟩ : ∃ Z, cmpZ A B = Z := ⟨_, rfl⟩
  have hZ1 : Z1 < 0 := by
    rw [← HZ1]; unfold cmpZ
    rw [if_pos hAB]; decide
  rw [HZ1] at HC1
  have kc : ¬ e1 < e1 := by omega
  clear h hA hB HF0 HZ1 hB0
  have hD0 := sd_made w E M (.bool n1) (.int .i16 e1) (.int .u64 (h1 : Int)) (.int .u64 (l1 : Int)) (.bool n2) (.int .i16 e1) (.int .u64 (h2 : Int)) (.int .u64 (l2 : Int))
  by_cases hs : n2 = n1
  · have HF : Hid (F = smR E M mo n2 e1 (B + smB 0 A)) := by show _ = _; rw [HF1]; unfold smT; rw [if_pos hs]
    clear HF1
    subst hs
    have jn : (n2 == n2) = true := by simp
    go_enter Oajg.func204, Oajg.ntmps204
    go_wp2_with fail
    refine Calls.mono (HC1.out _) ?_
    rintro _ v0 ⟨rfl, hb⟩
    have hD9 := sd_next hD0 hb
    have hD := sd_swap hD9
    clear hb hD0
    go_wp2_with fail
    clear hD9
    refine Calls.mono (HJ.out _) ?_
    rintro _ v1 ⟨jh, jl, hjw, rfl, hb⟩
    have HJW : Hid (Wd jh jl (smB 0 A)) := hjw
    have hD0 := sd_next hD hb
    have hD1 := sd_setQ hD0 (.int .u64 (jh : Int)) (.int .u64 (jl : Int))
    clear hb hD hjw
    obtain ⟨S, hS⟩ : ∃ S, S = B + smB 0 A := ⟨_, rfl⟩
    have HAD := hidden (wadd_ok h2 l2 jh jl B (smB 0 A) HA.out HJW.out (by omega))
    rw [← hS] at HAD HF
    clear hS
    go_wp2_with fail
    clear hD0
    refine Calls.mono (HAD.out _) ?_
    rintro _ v2 ⟨sh, sl, hsw, rfl, hb⟩
    have HSW : Hid (Wd sh sl S) := hsw
    have hD8 := sd_next hD1 hb
    have hD2 := sd_setP hD8 (.int .u64 (sh : Int)) (.int .u64 (sl : Int))
    clear hb hD1
    obtain ⟨O, hO⟩ : ∃ O, O = sh ||| sl := ⟨_, rfl⟩
    have kO : bits .or .u64 (sh : Int) (sl : Int) = (O : Int) := by rw [hO]; exact u64_or_nat _ _ hsw.1 hsw.2.1
    have hO0 : O = 0 ↔ S = 0 := by rw [hO, ← hsw.2.2, Nat.or_eq_zero_iff]; unfold w128; omega
    have HJM := hidden (fun (hS0 : S ≠ 0) => jam_ok sh sl S e1 hsw hS0 (by omega) (by omega))
    have hRlt := hidden (fun (hS0 : S ≠ 0) => jamQ_lt hS0 (wd_lt hsw))
    have hbS : bitLen S ≤ 128 := bitLen_le_of_lt (n := 128) (wd_lt hsw)
    clear hO hsw
    by_cases hS0 : S = 0
    · have jO : (O : Int) = 0 := by have := hO0.2 hS0; omega
      have HF0 : Hid (F = sgnd E M (decide (mo = 4)) 0) := by show _ = _; rw [HF.out]; unfold smR; rw [if_pos hS0]
      clear hO0 HJM hRlt
      go_wp2_with fail
      clear hD8
      refine Calls.mono (HZE.out _) ?_
      rintro _ v3 ⟨rfl, hb⟩
      have hD3 := sd_next hD2 hb
      clear hb hD2
      go_wp2_with fail
      go_ret2
      exact ⟨_, by rw [HF0.out]; rfl, hD3.1.2.2.2⟩
    · have jO : ¬ (O : Int) = 0 := by have : O ≠ 0 := fun hc => hS0 (hO0.1 hc); omega
      have HF0 : Hid (F = rpN E M mo n2 (e1 + 64 - ((128 - bitLen S : Nat) : Int)) (jamQ (S * 2 ^ (128 - bitLen S)) 18446744073709551616)) := by show _ = _; rw [HF.out]; unfold smR; rw [if_neg hS0]
      have HJM2 := hidden (HJM.out hS0)
      have hJ64 := hRlt.out hS0
      obtain ⟨J, HJe⟩ : ∃ J, J = jamQ (S * 2 ^ (128 - bitLen S)) 18446744073709551616 := ⟨_, rfl⟩
      obtain ⟨X, HXe⟩ : ∃ X : Int, X = e1 + 64 - ((128 - bitLen S : Nat) : Int) := ⟨_, rfl⟩
      rw [← HJe, ← HXe] at HJM2 HF0
      rw [← HJe] at hJ64
      have HRP := hidden (roundPack_ok E M HFO.out mo n2 X J hJ64 (by omega) (by omega))
      clear hO0 HJM hRlt HJe HXe hbS
      go_wp2_with fail
      clear hD8
      refine Calls.mono (HJM2.out _) ?_
      rintro _ v3 ⟨rfl, hb⟩
      have hD3 := sd_next hD2 hb
      clear hb hD2 HJM2
      generalize rpN E M mo n2 X J = RN at *
      generalize rpF E M mo n2 X J = RF at *
      go_wp2_with fail
      refine Calls.mono (HRP.out _) ?_
      rintro _ v4 ⟨rfl, hb⟩
      have hD4 := sd_next hD3 hb
      clear hb hD3
      go_wp2_with fail
      go_ret2
      exact ⟨_, by rw [HF0.out]; rfl, hD4.1.2.2.2⟩
  · have HF : Hid (F = smR E M mo n2 e1 (B - smB 0 A)) := by show _ = _; rw [HF1]; unfold smT; rw [if_neg hs]
    clear HF1
    have jn : (n1 == n2) = false := by cases n1 <;> cases n2 <;> simp_all
    have jn2 : (n2 == n1) = false := by cases n1 <;> cases n2 <;> simp_all
    go_enter Oajg.func204, Oajg.ntmps204
    go_wp2_with fail
    refine Calls.mono (HC1.out _) ?_
    rintro _ v0 ⟨rfl, hb⟩
    have hD9 := sd_next hD0 hb
    have hD := sd_swap hD9
    clear hb hD0
    go_wp2_with fail
    clear hD9
    refine Calls.mono (HJ.out _) ?_
    rintro _ v1 ⟨jh, jl, hjw, rfl, hb⟩
    have HJW : Hid (Wd jh jl (smB 0 A)) := hjw
    have hD0 := sd_next hD hb
    have hD1 := sd_setQ hD0 (.int .u64 (jh : Int)) (.int .u64 (jl : Int))
    clear hb hD hjw
    obtain ⟨S, hS⟩ : ∃ S, S = B - smB 0 A := ⟨_, rfl⟩
    have HSB := hidden (wsub_ok h2 l2 jh jl B (smB 0 A) HA.out HJW.out hBle)
    have HCM := hidden (wcmp_ok h2 l2 jh jl HA.out.1 HA.out.2.1 HJW.out.1 HJW.out.2.1)
    obtain ⟨Z, HZ⟩ : ∃ Z, Hid (cmpZ (w128 h2 l2) (w128 jh jl) = Z) := ⟨_, rfl⟩
    have hZ : ¬ Z < 0 := by
      rw [← HZ.out, HA.out.2.2, HJW.out.2.2]; unfold cmpZ; rw [if_neg (by omega)]; split <;> decide
    rw [HZ.out] at HCM
    rw [← hS] at HSB HF
    clear hS HZ
    go_wp2_with fail
    clear hD0
    refine Calls.mono (HCM.out _) ?_
    rintro _ v5 ⟨rfl, hb⟩
    have hD5 := sd_next hD1 hb
    clear hb hD1 HCM
    go_wp2_with fail
    refine Calls.mono (HSB.out _) ?_
    rintro _ v2 ⟨sh, sl, hsw, rfl, hb⟩
    have HSW : Hid (Wd sh sl S) := hsw
    have hD8 := sd_next hD5 hb
    have hD2 := sd_setP hD8 (.int .u64 (sh : Int)) (.int .u64 (sl : Int))
    clear hb hD5
    obtain ⟨O, hO⟩ : ∃ O, O = sh ||| sl := ⟨_, rfl⟩
    have kO : bits .or .u64 (sh : Int) (sl : Int) = (O : Int) := by rw [hO]; exact u64_or_nat _ _ hsw.1 hsw.2.1
    have hO0 : O = 0 ↔ S = 0 := by rw [hO, ← hsw.2.2, Nat.or_eq_zero_iff]; unfold w128; omega
    have HJM := hidden (fun (hS0 : S ≠ 0) => jam_ok sh sl S e1 hsw hS0 (by omega) (by omega))
    have hRlt := hidden (fun (hS0 : S ≠ 0) => jamQ_lt hS0 (wd_lt hsw))
    have hbS : bitLen S ≤ 128 := bitLen_le_of_lt (n := 128) (wd_lt hsw)
    clear hO hsw
    by_cases hS0 : S = 0
    · have jO : (O : Int) = 0 := by have := hO0.2 hS0; omega
      have HF0 : Hid (F = sgnd E M (decide (mo = 4)) 0) := by show _ = _; rw [HF.out]; unfold smR; rw [if_pos hS0]
      clear hO0 HJM hRlt
      go_wp2_with fail
      clear hD8
      refine Calls.mono (HZE.out _) ?_
      rintro _ v3 ⟨rfl, hb⟩
      have hD3 := sd_next hD2 hb
      clear hb hD2
      go_wp2_with fail
      go_ret2
      exact ⟨_, by rw [HF0.out]; rfl, hD3.1.2.2.2⟩
    · have jO : ¬ (O : Int) = 0 := by have : O ≠ 0 := fun hc => hS0 (hO0.1 hc); omega
      have HF0 : Hid (F = rpN E M mo n2 (e1 + 64 - ((128 - bitLen S : Nat) : Int)) (jamQ (S * 2 ^ (128 - bitLen S)) 18446744073709551616)) := by show _ = _; rw [HF.out]; unfold smR; rw [if_neg hS0]
      have HJM2 := hidden (HJM.out hS0)
      have hJ64 := hRlt.out hS0
      obtain ⟨J, HJe⟩ : ∃ J, J = jamQ (S * 2 ^ (128 - bitLen S)) 18446744073709551616 := ⟨_, rfl⟩
      obtain ⟨X, HXe⟩ : ∃ X : Int, X = e1 + 64 - ((128 - bitLen S : Nat) : Int) := ⟨_, rfl⟩
      rw [← HJe, ← HXe] at HJM2 HF0
      rw [← HJe] at hJ64
      have HRP := hidden (roundPack_ok E M HFO.out mo n2 X J hJ64 (by omega) (by omega))
      clear hO0 HJM hRlt HJe HXe hbS
      go_wp2_with fail
      clear hD8
      refine Calls.mono (HJM2.out _) ?_
      rintro _ v3 ⟨rfl, hb⟩
      have hD3 := sd_next hD2 hb
      clear hb hD2 HJM2
      generalize rpN E M mo n2 X J = RN at *
      generalize rpF E M mo n2 X J = RF at *
      go_wp2_with fail
      refine Calls.mono (HRP.out _) ?_
      rintro _ v4 ⟨rfl, hb⟩
      have hD4 := sd_next hD3 hb
      clear hb hD3
      go_wp2_with fail
      go_ret2
      exact ⟨_, by rw [HF0.out]; rfl, hD4.1.2.2.2⟩

end Go.Proofs.Ygcoaj
