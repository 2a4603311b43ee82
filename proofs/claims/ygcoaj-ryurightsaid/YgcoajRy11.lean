/-
  WALKS: exact.cutRest (164).
-/
import Derived.Test.YgcoajRy10
set_option linter.unusedVariables false
set_option linter.unusedSimpArgs false
namespace Go.Proofs.Ygcoaj
open Go.RowKit

theorem q22_next {w W W' : World} {m0 m1 : Nat} {x00 x01 x10 x11 : Value} (h : (W.cell? ⟨m0, 0, none⟩ = some x00 ∧ W.cell? ⟨m0, 1, none⟩ = some x01 ∧ (∀ o, W.frozen? ⟨m0, o, none⟩ = false) ∧ m0 < W.heap.size) ∧ (W.cell? ⟨m1, 0, none⟩ = some x10 ∧ W.cell? ⟨m1, 1, none⟩ = some x11 ∧ (∀ o, W.frozen? ⟨m1, o, none⟩ = false) ∧ m1 < W.heap.size) ∧ Below w.heap.size w W) (hb : Below W.heap.size W W') : (W'.cell? ⟨m0, 0, none⟩ = some x00 ∧ W'.cell? ⟨m0, 1, none⟩ = some x01 ∧ (∀ o, W'.frozen? ⟨m0, o, none⟩ = false) ∧ m0 < W'.heap.size) ∧ (W'.cell? ⟨m1, 0, none⟩ = some x10 ∧ W'.cell? ⟨m1, 1, none⟩ = some x11 ∧ (∀ o, W'.frozen? ⟨m1, o, none⟩ = false) ∧ m1 < W'.heap.size) ∧ Below w.heap.size w W' := ⟨bx2_next h.1 hb, bx2_next h.2.1 hb, below_then h.2.2 hb⟩
theorem q22_drew {w W : World} {m0 m1 : Nat} {x00 x01 x10 x11 : Value} (h : (W.cell? ⟨m0, 0, none⟩ = some x00 ∧ W.cell? ⟨m0, 1, none⟩ = some x01 ∧ (∀ o, W.frozen? ⟨m0, o, none⟩ = false) ∧ m0 < W.heap.size) ∧ (W.cell? ⟨m1, 0, none⟩ = some x10 ∧ W.cell? ⟨m1, 1, none⟩ = some x11 ∧ (∀ o, W.frozen? ⟨m1, o, none⟩ = false) ∧ m1 < W.heap.size) ∧ Below w.heap.size w W) : (W.drew.cell? ⟨m0, 0, none⟩ = some x00 ∧ W.drew.cell? ⟨m0, 1, none⟩ = some x01 ∧ (∀ o, W.drew.frozen? ⟨m0, o, none⟩ = false) ∧ m0 < W.drew.heap.size) ∧ (W.drew.cell? ⟨m1, 0, none⟩ = some x10 ∧ W.drew.cell? ⟨m1, 1, none⟩ = some x11 ∧ (∀ o, W.drew.frozen? ⟨m1, o, none⟩ = false) ∧ m1 < W.drew.heap.size) ∧ Below w.heap.size w W.drew := ⟨bx2_drew h.1, bx2_drew h.2.1, h.2.2.drew⟩
theorem q22_alloc {w W : World} {m0 m1 : Nat} {x00 x01 x10 x11 : Value} (h : (W.cell? ⟨m0, 0, none⟩ = some x00 ∧ W.cell? ⟨m0, 1, none⟩ = some x01 ∧ (∀ o, W.frozen? ⟨m0, o, none⟩ = false) ∧ m0 < W.heap.size) ∧ (W.cell? ⟨m1, 0, none⟩ = some x10 ∧ W.cell? ⟨m1, 1, none⟩ = some x11 ∧ (∀ o, W.frozen? ⟨m1, o, none⟩ = false) ∧ m1 < W.heap.size) ∧ Below w.heap.size w W) (ob : Obj) : ((W.alloc ob).cell? ⟨m0, 0, none⟩ = some x00 ∧ (W.alloc ob).cell? ⟨m0, 1, none⟩ = some x01 ∧ (∀ o, (W.alloc ob).frozen? ⟨m0, o, none⟩ = false) ∧ m0 < (W.alloc ob).heap.size) ∧ ((W.alloc ob).cell? ⟨m1, 0, none⟩ = some x10 ∧ (W.alloc ob).cell? ⟨m1, 1, none⟩ = some x11 ∧ (∀ o, (W.alloc ob).frozen? ⟨m1, o, none⟩ = false) ∧ m1 < (W.alloc ob).heap.size) ∧ Below w.heap.size w (W.alloc ob) := ⟨bx2_alloc h.1 ob, bx2_alloc h.2.1 ob, h.2.2.alloc h.2.2.size ob⟩
theorem q22_store {w W : World} {m0 m1 : Nat} {x00 x01 x10 x11 : Value} (h : (W.cell? ⟨m0, 0, none⟩ = some x00 ∧ W.cell? ⟨m0, 1, none⟩ = some x01 ∧ (∀ o, W.frozen? ⟨m0, o, none⟩ = false) ∧ m0 < W.heap.size) ∧ (W.cell? ⟨m1, 0, none⟩ = some x10 ∧ W.cell? ⟨m1, 1, none⟩ = some x11 ∧ (∀ o, W.frozen? ⟨m1, o, none⟩ = false) ∧ m1 < W.heap.size) ∧ Below w.heap.size w W) {p : Addr} {u : Value} (hp : w.heap.size ≤ p.block ∧ m0 ≠ p.block ∧ m1 ≠ p.block) : ((W.setCell p u).cell? ⟨m0, 0, none⟩ = some x00 ∧ (W.setCell p u).cell? ⟨m0, 1, none⟩ = some x01 ∧ (∀ o, (W.setCell p u).frozen? ⟨m0, o, none⟩ = false) ∧ m0 < (W.setCell p u).heap.size) ∧ ((W.setCell p u).cell? ⟨m1, 0, none⟩ = some x10 ∧ (W.setCell p u).cell? ⟨m1, 1, none⟩ = some x11 ∧ (∀ o, (W.setCell p u).frozen? ⟨m1, o, none⟩ = false) ∧ m1 < (W.setCell p u).heap.size) ∧ Below w.heap.size w (W.setCell p u) := ⟨bx2_far h.1 hp.2.1, bx2_far h.2.1 hp.2.2, h.2.2.setCell hp.1 u⟩

/-- the half of what is left -/
def ctH (left p : Nat) (HF : Int) (SM : Bool) : Int :=
  if p = 1 then HF else if p < 2 * left ∨ (2 * left = p ∧ SM = true) then 1 else if 2 * left = p then 0 else -1

set_option maxRecDepth 100000 in
set_option maxHeartbeats 4000000 in
theorem cutRest_ok (left p : Nat) (HF : Int) (SM : Bool) (hl : left ≤ 1000000000000000000) (hp : p ≤ 1000000000000000000) (w : World) :
    Calls Oajg.prog 164 #[.int .i64 (left : Int), .int .i64 (p : Int), .agg #[.int .i8 HF, .bool SM]] w fun x w' => ∃ sm, x = .returned (.agg #[.int .i8 (ctH left p HF SM), .bool sm]) ∧ Below w.heap.size w w' := by
  have hS : (((w.alloc (.cells #[.int .i8 HF, .bool SM] 152)).alloc (.cells #[.int .i8 0, .bool false] 152)).cell? ⟨w.heap.size, 0, none⟩ = some (.int .i8 HF) ∧ ((w.alloc (.cells #[.int .i8 HF, .bool SM] 152)).alloc (.cells #[.int .i8 0, .bool false] 152)).cell? ⟨w.heap.size, 1, none⟩ = some (.bool SM) ∧ (∀ o, ((w.alloc (.cells #[.int .i8 HF, .bool SM] 152)).alloc (.cells #[.int .i8 0, .bool false] 152)).frozen? ⟨w.heap.size, o, none⟩ = false) ∧ w.heap.size < ((w.alloc (.cells #[.int .i8 HF, .bool SM] 152)).alloc (.cells #[.int .i8 0, .bool false] 152)).heap.size) ∧ (((w.alloc (.cells #[.int .i8 HF, .bool SM] 152)).alloc (.cells #[.int .i8 0, .bool false] 152)).cell? ⟨(w.heap.size + 1), 0, none⟩ = some (.int .i8 0) ∧ ((w.alloc (.cells #[.int .i8 HF, .bool SM] 152)).alloc (.cells #[.int .i8 0, .bool false] 152)).cell? ⟨(w.heap.size + 1), 1, none⟩ = some (.bool false) ∧ (∀ o, ((w.alloc (.cells #[.int .i8 HF, .bool SM] 152)).alloc (.cells #[.int .i8 0, .bool false] 152)).frozen? ⟨(w.heap.size + 1), o, none⟩ = false) ∧ (w.heap.size + 1) < ((w.alloc (.cells #[.int .i8 HF, .bool SM] 152)).alloc (.cells #[.int .i8 0, .bool false] 152)).heap.size) ∧ Below w.heap.size w ((w.alloc (.cells #[.int .i8 HF, .bool SM] 152)).alloc (.cells #[.int .i8 0, .bool false] 152)) := ⟨bx2_alloc (bx2_made w (m := w.heap.size) _ _ 152 rfl) _, bx2_made _ (m := w.heap.size + 1) _ _ 152 (by simp), ((Below.refl _ _).alloc (Nat.le_refl _) _).alloc (by simp) _⟩
  unfold ctH
  by_cases hp1 : p = 1
  · have b1 : ((p : Int) == 1) = true := by rw [hp1]; rfl
    rw [if_pos hp1]
    clear hp1
    go_enter Oajg.func164, Oajg.ntmps164
    go_wp2_with fail
    refine bodyPost_ret (v := .agg #[.int .i8 HF, .bool SM]) (by simp [results, Oajg.results164, go_sem, hS]) rfl (by first | exact ⟨_, rfl, ((Below.refl _ _).alloc (Nat.le_refl _) _).alloc (by simp) _⟩ | exact ⟨by simp, ((Below.refl _ _).alloc (Nat.le_refl _) _).alloc (by simp) _⟩ | exact ⟨by cases SM <;> simp, ((Below.refl _ _).alloc (Nat.le_refl _) _).alloc (by simp) _⟩)

  · have b1 : ((p : Int) == 1) = false := by rw [beq_eq_false_iff_ne]; omega
    rw [if_neg hp1]
    clear hp1
    have kw : IntKind.i64.wrap (2 * (left : Int)) = 2 * (left : Int) := by rw [IntKind.wrap_i64]; omega
    by_cases hgt : p < 2 * left
    · have b2 : decide ((p : Int) < 2 * (left : Int)) = true := decide_eq_true (by omega)
      have b2' : (p : Int) < 2 * (left : Int) := by omega
      rw [if_pos (Or.inl hgt)]
      go_enter Oajg.func164, Oajg.ntmps164
      go_wp2_with fail
      refine bodyPost_ret (v := .agg #[.int .i8 1, .bool true]) (by simp [results, Oajg.results164, go_sem, hS]) rfl (by first | exact ⟨_, rfl, ((Below.refl _ _).alloc (Nat.le_refl _) _).alloc (by simp) _⟩ | exact ⟨by simp, ((Below.refl _ _).alloc (Nat.le_refl _) _).alloc (by simp) _⟩ | exact ⟨by cases SM <;> simp, ((Below.refl _ _).alloc (Nat.le_refl _) _).alloc (by simp) _⟩)

    · have b2 : decide ((p : Int) < 2 * (left : Int)) = false := decide_eq_false (by omega)
      have b2' : ¬ (p : Int) < 2 * (left : Int) := by omega
      by_cases heq : 2 * left = p
      · have b3 : ((2 * (left : Int)) == (p : Int)) = true := by rw [beq_iff_eq]; omega
        cases SM with
        | true =>
          rw [if_pos (Or.inr ⟨heq, rfl⟩)]
          clear heq hgt
          go_enter Oajg.func164, Oajg.ntmps164
          go_wp2_with fail
          refine bodyPost_ret (v := .agg #[.int .i8 1, .bool true]) (by simp [results, Oajg.results164, go_sem, hS]) rfl (by first | exact ⟨_, rfl, ((Below.refl _ _).alloc (Nat.le_refl _) _).alloc (by simp) _⟩ | exact ⟨by simp, ((Below.refl _ _).alloc (Nat.le_refl _) _).alloc (by simp) _⟩ | exact ⟨by cases SM <;> simp, ((Below.refl _ _).alloc (Nat.le_refl _) _).alloc (by simp) _⟩)

        | false =>
          rw [if_neg (by rintro (h | ⟨_, h⟩); exact hgt h; exact absurd h (by decide)), if_pos heq]
          clear heq hgt
          go_enter Oajg.func164, Oajg.ntmps164
          go_wp2_with fail
          refine bodyPost_ret (v := .agg #[.int .i8 0, .bool true]) (by simp [results, Oajg.results164, go_sem, hS]) rfl (by first | exact ⟨_, rfl, ((Below.refl _ _).alloc (Nat.le_refl _) _).alloc (by simp) _⟩ | exact ⟨by simp, ((Below.refl _ _).alloc (Nat.le_refl _) _).alloc (by simp) _⟩ | exact ⟨by cases SM <;> simp, ((Below.refl _ _).alloc (Nat.le_refl _) _).alloc (by simp) _⟩)

      · have b3 : ((2 * (left : Int)) == (p : Int)) = false := by rw [beq_eq_false_iff_ne]; omega
        rw [if_neg (by rintro (h | ⟨h, _⟩); exact hgt h; exact heq h), if_neg heq]
        clear heq hgt
        by_cases h0 : left = 0
        · have b4 : ((left : Int) == 0) = true := by rw [h0]; rfl
          have b5 : ((left : Int) != 0) = false := by rw [h0]; rfl
          clear h0
          go_enter Oajg.func164, Oajg.ntmps164
          go_wp2_with fail
          refine bodyPost_ret (v := .agg #[.int .i8 (-1), .bool SM]) (by simp [results, Oajg.results164, go_sem, hS]) rfl (by first | exact ⟨_, rfl, ((Below.refl _ _).alloc (Nat.le_refl _) _).alloc (by simp) _⟩ | exact ⟨by simp, ((Below.refl _ _).alloc (Nat.le_refl _) _).alloc (by simp) _⟩ | exact ⟨by cases SM <;> simp, ((Below.refl _ _).alloc (Nat.le_refl _) _).alloc (by simp) _⟩)

        · have b4 : ((left : Int) == 0) = false := by rw [beq_eq_false_iff_ne]; omega
          have b5 : ((left : Int) != 0) = true := by rw [bne_iff_ne]; omega
          go_enter Oajg.func164, Oajg.ntmps164
          go_wp2_with fail
          refine bodyPost_ret (v := .agg #[.int .i8 (-1), .bool true]) (by simp [results, Oajg.results164, go_sem, hS]) rfl (by first | exact ⟨_, rfl, ((Below.refl _ _).alloc (Nat.le_refl _) _).alloc (by simp) _⟩ | exact ⟨by simp, ((Below.refl _ _).alloc (Nat.le_refl _) _).alloc (by simp) _⟩ | exact ⟨by cases SM <;> simp, ((Below.refl _ _).alloc (Nat.le_refl _) _).alloc (by simp) _⟩)


end Go.Proofs.Ygcoaj
