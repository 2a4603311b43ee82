/-
  WALKS: tab.Fits (108), Table.At (190).
-/
import Derived.Test.YgcoajRy14
import Derived.BigQuiet
set_option linter.unusedVariables false
set_option linter.unusedSimpArgs false
namespace Go.Proofs.Ygcoaj
open Go.RowKit

/-- the table's cells: entry i is that of 10^(i - 348) -/
def TabAt (C : Array Value) : Prop := C.size = 2088 ∧ ∀ i, i < 696 → C[i * 2]? = some (.int .u64 ((tnM ((i : Int) - 348) / 18446744073709551616 : Nat) : Int)) ∧ C[i * 2 + 1]? = some (.int .u64 ((tnM ((i : Int) - 348) % 18446744073709551616 : Nat) : Int)) ∧ C[1392 + i]? = some (.int .i16 (tnE ((i : Int) - 348)))

/-- all entries fit -/
def fitB (q : Int) : Bool := decide (9223372036854775808 ≤ tnM q / 18446744073709551616) && decide (tnM q / 18446744073709551616 < 18446744073709551616) && decide (tnM q + 1 < 340282366920938463463374607431768211456) && decide (-1300 ≤ tnE q) && decide (tnE q ≤ 1100)
def fitAll (n : Nat) : Bool := match n with | 0 => true | n + 1 => fitB ((n : Int) - 348) && fitAll n
theorem fitAll_at {n : Nat} (h : fitAll n = true) : ∀ i, i < n → fitB ((i : Int) - 348) = true := by
  induction n with
  | zero => intro i hi; omega
  | succ n ih =>
    unfold fitAll at h
    rw [Bool.and_eq_true] at h
    intro i hi
    rcases Nat.lt_or_ge i n with hc | hc
    · exact ih h.2 i hc
    · rw [show i = n from by omega]; exact h.1
theorem fit_696 : fitAll 696 = true := by kernel_rfl
theorem fits_all {q : Int} (h1 : -348 ≤ q) (h2 : q ≤ 347) : 9223372036854775808 ≤ tnM q / 18446744073709551616 ∧ tnM q / 18446744073709551616 < 18446744073709551616 ∧ tnM q + 1 < 340282366920938463463374607431768211456 ∧ -1300 ≤ tnE q ∧ tnE q ≤ 1100 := by
  have h := fitAll_at fit_696 (q + 348).toNat (by omega)
  rw [show (((q + 348).toNat : Nat) : Int) - 348 = q from by omega] at h
  unfold fitB at h
  simp only [Bool.and_eq_true, decide_eq_true_eq] at h
  exact ⟨h.1.1.1.1, h.1.1.1.2, h.1.1.2, h.1.2, h.2⟩

set_option maxRecDepth 100000 in
set_option maxHeartbeats 4000000 in
theorem fits_ok (H L : Nat) (x : Int) (h1 : 9223372036854775808 ≤ H) (h2 : H < 18446744073709551616) (h3 : L < 18446744073709551616) (h4 : ¬ (H = 18446744073709551615 ∧ L = 18446744073709551615)) (h5 : -1300 ≤ x) (h6 : x ≤ 1100) (w : World) :
    Calls Oajg.prog 108 #[.agg #[.int .u64 (H : Int), .int .u64 (L : Int)], .int .i16 x] w fun e w' => e = .returned (.bool true) ∧ Below w.heap.size w w' := by
  have hS := bx2_made w (m := w.heap.size) (.int .u64 (H : Int)) (.int .u64 (L : Int)) 88 rfl
  have HB := hid_mk ((Below.refl w.heap.size w).alloc (Nat.le_refl _) (.cells #[.int .u64 (H : Int), .int .u64 (L : Int)] 88))
  have k1 : (H : Int) / 9223372036854775808 = 1 := by omega
  have b3 : decide (-1300 ≤ x) = true := decide_eq_true h5
  have b4 : decide (x ≤ 1100) = true := decide_eq_true h6
  by_cases hH : H = 18446744073709551615
  · have b1 : ((H : Int) == 18446744073709551615) = true := by rw [beq_iff_eq]; omega
    have b2 : ((L : Int) == 18446744073709551615) = false := by rw [beq_eq_false_iff_ne]; omega
    clear hH h4
    go_enter Oajg.func108, Oajg.ntmps108
    go_wp2_with fail
    exact bodyPost_ret (v := .bool true) (by simp [results, Oajg.results108, go_sem]) rfl ⟨rfl, HB.out⟩
  · have b1 : ((H : Int) == 18446744073709551615) = false := by rw [beq_eq_false_iff_ne]; omega
    clear hH h4
    go_enter Oajg.func108, Oajg.ntmps108
    go_wp2_with fail
    exact bodyPost_ret (v := .bool true) (by simp [results, Oajg.results108, go_sem]) rfl ⟨rfl, HB.out⟩

set_option maxRecDepth 100000 in
set_option maxHeartbeats 4000000 in
theorem at_ok (q : Int) (h1 : -348 ≤ q) (h2 : q ≤ 347) (tb t : Nat) (C : Array Value) (hC : TabAt C) (w : World) (hB : Blk w tb C t) :
    Calls Oajg.prog 190 #[.pointer (some ⟨tb, 0, none⟩), .int .i16 q] w fun e w' => e = .returned (.tuple #[.agg #[.int .u64 ((tnM q / 18446744073709551616 : Nat) : Int), .int .u64 ((tnM q % 18446744073709551616 : Nat) : Int)], .int .i16 (tnE q), .bool true]) ∧ Below w.heap.size w w' := by
  obtain ⟨i, hi⟩ : ∃ i : Nat, (i : Int) = q + 348 := ⟨(q + 348).toNat, by omega⟩
  have hi2 : i < 696 := by omega
  obtain ⟨c1, c2, c3⟩ := hC.2 i hi2
  rw [show (i : Int) - 348 = q from by omega] at c1 c2 c3
  generalize ((tnM q / 18446744073709551616 : Nat) : Int) = H at *
  generalize ((tnM q % 18446744073709551616 : Nat) : Int) = L at *
  generalize tnE q = E at *
  have m0 := (hB.cell (i * 2)).trans c1
  have m1 := (hB.cell (i * 2 + 1)).trans c2
  have m2 := (hB.cell (1392 + i)).trans c3
  have hl := hB.lt
  have hb1 : ∀ o, (w.alloc (.cells #[.int .u64 0, .int .u64 0] 88)).cell? ⟨tb, o, none⟩ = w.cell? ⟨tb, o, none⟩ := fun o => ((Below.refl w.heap.size w).alloc (Nat.le_refl _) _).cell (p := ⟨tb, o, none⟩) hl
  have hb2 : ∀ o, (w.alloc (.cells #[.int .u64 H, .int .u64 L] 88)).cell? ⟨tb, o, none⟩ = w.cell? ⟨tb, o, none⟩ := fun o => ((Below.refl w.heap.size w).alloc (Nat.le_refl _) _).cell (p := ⟨tb, o, none⟩) hl
  have n3 := (hb2 _).trans m2
  have n0 := (hb1 _).trans m0
  have n1 := (hb1 _).trans m1
  have n2 := (hb1 _).trans m2
  have hS := bx2_made w (m := w.heap.size) (.int .u64 0) (.int .u64 0) 88 rfl
  have k1 : IntKind.i64.wrap (q + 348) = (i : Int) := by rw [IntKind.wrap_i64]; omega
  have k2 : (q + 348).toNat = i := by omega
  have b1 : decide (q < -348) = false := decide_eq_false (by omega)
  have b2 : decide (347 < q) = false := decide_eq_false (by omega)
  have b1' : ¬ (q < -348) := by omega
  have b2' : ¬ (347 < q) := by omega
  clear c1 c2 c3 hC hB hb1 hb2 m0 m1 m2
  go_enter Oajg.func190, Oajg.ntmps190
  go_wp2_with fail
  go_region
  go_wp2_with fail
  exact bodyPost_ret (v := .tuple #[.agg #[.int .u64 H, .int .u64 L], .int .i16 E, .bool true]) (by simp [results, Oajg.results190, go_sem]) rfl ⟨rfl, ((Below.refl _ _).alloc (Nat.le_refl _) _).drew⟩

end Go.Proofs.Ygcoaj
