/-
  WALKS: ryu.span.drop (193).
-/
import Derived.Test.YgcoajRy4
set_option linter.unusedVariables false
set_option linter.unusedSimpArgs false
namespace Go.Proofs.Ygcoaj
open Go.RowKit

/-- the span's seven cells -/
def spC (lo mi hi : Int) (lw mw en : Bool) (la : Int) : Array Value := #[.int .u64 lo, .int .u64 mi, .int .u64 hi, .bool lw, .bool mw, .bool en, .int .u64 la]
theorem sp_cells {w : World} {sb t : Nat} {lo mi hi la : Int} {lw mw en : Bool} (h : Blk w sb (spC lo mi hi lw mw en la) t) :
    w.cell? ⟨sb, 0, none⟩ = some (.int .u64 lo) ∧ w.cell? ⟨sb, 1, none⟩ = some (.int .u64 mi) ∧ w.cell? ⟨sb, 2, none⟩ = some (.int .u64 hi) ∧ w.cell? ⟨sb, 3, none⟩ = some (.bool lw) ∧ w.cell? ⟨sb, 4, none⟩ = some (.bool mw) ∧ w.cell? ⟨sb, 5, none⟩ = some (.bool en) ∧ w.cell? ⟨sb, 6, none⟩ = some (.int .u64 la) ∧ (∀ o, w.frozen? ⟨sb, o, none⟩ = false) ∧ sb < w.heap.size :=
  ⟨h.cell 0, h.cell 1, h.cell 2, h.cell 3, h.cell 4, h.cell 5, h.cell 6, h.frozen, h.lt⟩

theorem set6 (w : World) (sb i1 i2 i3 i4 i5 i6 : Nat) (u1 u2 u3 u4 u5 u6 : Value) : Below sb w ((((((w.setCell ⟨sb, i1, none⟩ u1).setCell ⟨sb, i2, none⟩ u2).setCell ⟨sb, i3, none⟩ u3).setCell ⟨sb, i4, none⟩ u4).setCell ⟨sb, i5, none⟩ u5).setCell ⟨sb, i6, none⟩ u6) := ((((((Below.refl sb w).setCell (p := ⟨sb, i1, none⟩) (Nat.le_refl sb) u1).setCell (p := ⟨sb, i2, none⟩) (Nat.le_refl sb) u2).setCell (p := ⟨sb, i3, none⟩) (Nat.le_refl sb) u3).setCell (p := ⟨sb, i4, none⟩) (Nat.le_refl sb) u4).setCell (p := ⟨sb, i5, none⟩) (Nat.le_refl sb) u5).setCell (p := ⟨sb, i6, none⟩) (Nat.le_refl sb) u6

set_option maxRecDepth 100000 in
set_option maxHeartbeats 4000000 in
theorem drop_ok (lo mi hi la sb t : Nat) (lw mw en : Bool) (h1 : lo < 4611686018427387904) (h2 : mi < 4611686018427387904) (h3 : hi < 4611686018427387904) (h4 : la < 4611686018427387904) (w : World)
    (h : Blk w sb (spC lo mi hi lw mw en la) t) :
    Calls Oajg.prog 193 #[.pointer (some ⟨sb, 0, none⟩)] w fun x w' => x = .returned (.tuple #[]) ∧ Blk w' sb (spC ((lo / 10 : Nat) : Int) ((mi / 10 : Nat) : Int) ((hi / 10 : Nat) : Int) (lw && decide (lo % 10 = 0)) (mw && decide (la = 0)) en ((mi % 10 : Nat) : Int)) t ∧ Below sb w w' := by
  have hc := sp_cells h
  have k1 : IntKind.u64.wrap ((lo : Int) % 10) = (lo : Int) % 10 := by rw [IntKind.wrap_u64]; omega
  have k2 : IntKind.u64.wrap ((mi : Int) % 10) = (mi : Int) % 10 := by rw [IntKind.wrap_u64]; omega
  have k3 : IntKind.u64.wrap ((lo : Int) / 10) = (lo : Int) / 10 := by rw [IntKind.wrap_u64]; omega
  have k4 : IntKind.u64.wrap ((mi : Int) / 10) = (mi : Int) / 10 := by rw [IntKind.wrap_u64]; omega
  have k5 : IntKind.u64.wrap ((hi : Int) / 10) = (hi : Int) / 10 := by rw [IntKind.wrap_u64]; omega
  have d1 : (lo : Int).tmod 10 = (lo : Int) % 10 := Int.tmod_eq_emod_of_nonneg (by omega)
  have d2 : (mi : Int).tmod 10 = (mi : Int) % 10 := Int.tmod_eq_emod_of_nonneg (by omega)
  have d3 : (lo : Int).tdiv 10 = (lo : Int) / 10 := Int.tdiv_eq_ediv_of_nonneg (by omega)
  have d4 : (mi : Int).tdiv 10 = (mi : Int) / 10 := Int.tdiv_eq_ediv_of_nonneg (by omega)
  have d5 : (hi : Int).tdiv 10 = (hi : Int) / 10 := Int.tdiv_eq_ediv_of_nonneg (by omega)
  have e1 : (lw && decide (lo % 10 = 0)) = (lw && ((lo : Int) % 10 == 0)) := by
    congr 1
    by_cases h0 : lo % 10 = 0
    · rw [decide_eq_true h0]; symm; rw [beq_iff_eq]; omega
    · rw [decide_eq_false h0]; symm; rw [beq_eq_false_iff_ne]; omega
  have e2 : (mw && decide (la = 0)) = (mw && ((la : Int) == 0)) := by
    congr 1
    by_cases h0 : la = 0
    · rw [decide_eq_true h0]; symm; rw [beq_iff_eq]; omega
    · rw [decide_eq_false h0]; symm; rw [beq_eq_false_iff_ne]; omega
  rw [e1, e2, show ((lo / 10 : Nat) : Int) = (lo : Int) / 10 from by omega, show ((mi / 10 : Nat) : Int) = (mi : Int) / 10 from by omega, show ((hi / 10 : Nat) : Int) = (hi : Int) / 10 from by omega, show ((mi % 10 : Nat) : Int) = (mi : Int) % 10 from by omega]
  have HB := hid_mk h
  clear h e1 e2
  cases lw <;> cases mw <;> (
    go_enter Oajg.func193, Oajg.ntmps193
    go_wp2_with fail
    refine bodyPost_end (v := .tuple #[]) (by simp [results, Oajg.results193, go_sem]) rfl ⟨rfl, ?_, set6 _ _ _ _ _ _ _ _ _ _ _ _ _ _⟩
    simp only [spC]
    exact (((((HB.out.set 3 _).set 4 _).set 6 _).set 0 _).set 1 _).set 2 _)

end Go.Proofs.Ygcoaj
