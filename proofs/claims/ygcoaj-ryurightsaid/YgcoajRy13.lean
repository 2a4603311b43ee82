/-
  WALKS: exact.Shortest (111) at zeros, infinities, NaNs.
-/
import Derived.Test.YgcoajRy12
set_option linter.unusedVariables false
set_option linter.unusedSimpArgs false
namespace Go.Proofs.Ygcoaj
open Go.RowKit

set_option maxRecDepth 100000 in
set_option maxHeartbeats 4000000 in
theorem xs_zero (E M x X n d : Nat) (neg G : Bool) (C : Int) (hC0 : (C == 0) = true)
    (HOK : Hid (∀ w, Calls Oajg.prog 17 #[.agg #[.int .u8 (E : Int), .int .u8 (M : Int)]] w fun e w' => e = .returned (.bool true) ∧ Below w.heap.size w w'))
    (HO : Hid (∀ w, Calls Oajg.prog 63 #[.agg #[.int .u8 (E : Int), .int .u8 (M : Int)], .int .u64 (x : Int)] w fun e w' => ∃ a1 k1 c1 a2 k2 c2, e = .returned (.agg #[.int .u64 (X : Int), .bool neg, .int .i8 C, .bool G, .slice a1 k1 c1, .slice a2 k2 c2]) ∧ NatIs 2050 w' (.slice a1 k1 c1) n ∧ NatIs 2050 w' (.slice a2 k2 c2) d ∧ Below w.heap.size w w')) (w : World) :
    Calls Oajg.prog 111 #[.agg #[.int .u8 (E : Int), .int .u8 (M : Int)], .int .u64 (x : Int)] w fun e w' => e = .returned (.agg #[.bool neg, .string ⟨#[]⟩, .int .i16 0]) ∧ Below w.heap.size w w' := by
  have hS : (((w.alloc (.cells #[.int .u8 (E : Int), .int .u8 (M : Int)] 23)).alloc (.cells #[.bool false, .string ⟨#[]⟩, .int .i16 0] 69)).cell? ⟨w.heap.size, 0, none⟩ = some (.int .u8 (E : Int)) ∧ ((w.alloc (.cells #[.int .u8 (E : Int), .int .u8 (M : Int)] 23)).alloc (.cells #[.bool false, .string ⟨#[]⟩, .int .i16 0] 69)).cell? ⟨w.heap.size, 1, none⟩ = some (.int .u8 (M : Int)) ∧ (∀ o, ((w.alloc (.cells #[.int .u8 (E : Int), .int .u8 (M : Int)] 23)).alloc (.cells #[.bool false, .string ⟨#[]⟩, .int .i16 0] 69)).frozen? ⟨w.heap.size, o, none⟩ = false) ∧ w.heap.size < ((w.alloc (.cells #[.int .u8 (E : Int), .int .u8 (M : Int)] 23)).alloc (.cells #[.bool false, .string ⟨#[]⟩, .int .i16 0] 69)).heap.size) ∧ (((w.alloc (.cells #[.int .u8 (E : Int), .int .u8 (M : Int)] 23)).alloc (.cells #[.bool false, .string ⟨#[]⟩, .int .i16 0] 69)).cell? ⟨(w.heap.size + 1), 0, none⟩ = some (.bool false) ∧ ((w.alloc (.cells #[.int .u8 (E : Int), .int .u8 (M : Int)] 23)).alloc (.cells #[.bool false, .string ⟨#[]⟩, .int .i16 0] 69)).cell? ⟨(w.heap.size + 1), 1, none⟩ = some (.string ⟨#[]⟩) ∧ ((w.alloc (.cells #[.int .u8 (E : Int), .int .u8 (M : Int)] 23)).alloc (.cells #[.bool false, .string ⟨#[]⟩, .int .i16 0] 69)).cell? ⟨(w.heap.size + 1), 2, none⟩ = some (.int .i16 0) ∧ (∀ o, ((w.alloc (.cells #[.int .u8 (E : Int), .int .u8 (M : Int)] 23)).alloc (.cells #[.bool false, .string ⟨#[]⟩, .int .i16 0] 69)).frozen? ⟨(w.heap.size + 1), o, none⟩ = false) ∧ (w.heap.size + 1) < ((w.alloc (.cells #[.int .u8 (E : Int), .int .u8 (M : Int)] 23)).alloc (.cells #[.bool false, .string ⟨#[]⟩, .int .i16 0] 69)).heap.size) ∧ Below w.heap.size w ((w.alloc (.cells #[.int .u8 (E : Int), .int .u8 (M : Int)] 23)).alloc (.cells #[.bool false, .string ⟨#[]⟩, .int .i16 0] 69)) := ⟨bx2_alloc (bx2_made w (m := w.heap.size) _ _ 23 rfl) _, bx3_made _ (m := w.heap.size + 1) _ _ _ 69 (by simp), ((Below.refl _ _).alloc (Nat.le_refl _) _).alloc (by simp) _⟩
  go_enter Oajg.func111, Oajg.ntmps111
  go_wp2_with fail
  refine Calls.mono (HOK.out _) ?_
  rintro _ w1 ⟨rfl, hb⟩
  replace hS := q23z_next hS hb
  clear hb HOK
  go_wp2_with fail
  refine Calls.mono (HO.out _) ?_
  rintro _ w2 ⟨a1, k1, c1, a2, k2, c2, rfl, hN1, hN2, hb⟩
  replace hS := q23z_next hS hb
  have hob : w.heap.size + 1 < w2.heap.size := hS.2.1.2.2.2.2
  have n1 : w.heap.size + 1 ≠ w2.heap.size := by omega
  have HB := hid_mk hS.2.2
  have hR := hS.2.1
  clear hN1 hN2 hb HO
  go_wp2_with fail
  refine bodyPost_ret (v := .agg #[.bool neg, .string ⟨#[]⟩, .int .i16 0]) (by simp [results, Oajg.results111, go_sem, hR]) rfl ⟨rfl, ?_⟩
  exact (((HB.out.setCell (Nat.le_succ _) _).setCell (Nat.le_succ _) _).setCell (Nat.le_succ _) _).alloc (by simp only [World.size_setCell]; omega) _

set_option maxRecDepth 100000 in
set_option maxHeartbeats 4000000 in
theorem xs_inf (E M x X n d : Nat) (neg G : Bool) (C : Int) (hC0 : (C == 0) = false) (hC3 : (C == 3) = true)
    (HOK : Hid (∀ w, Calls Oajg.prog 17 #[.agg #[.int .u8 (E : Int), .int .u8 (M : Int)]] w fun e w' => e = .returned (.bool true) ∧ Below w.heap.size w w'))
    (HO : Hid (∀ w, Calls Oajg.prog 63 #[.agg #[.int .u8 (E : Int), .int .u8 (M : Int)], .int .u64 (x : Int)] w fun e w' => ∃ a1 k1 c1 a2 k2 c2, e = .returned (.agg #[.int .u64 (X : Int), .bool neg, .int .i8 C, .bool G, .slice a1 k1 c1, .slice a2 k2 c2]) ∧ NatIs 2050 w' (.slice a1 k1 c1) n ∧ NatIs 2050 w' (.slice a2 k2 c2) d ∧ Below w.heap.size w w')) (w : World) :
    Calls Oajg.prog 111 #[.agg #[.int .u8 (E : Int), .int .u8 (M : Int)], .int .u64 (x : Int)] w fun e w' => e = .returned (.agg #[.bool false, .string ⟨#[]⟩, .int .i16 0]) ∧ Below w.heap.size w w' := by
  have hS : (((w.alloc (.cells #[.int .u8 (E : Int), .int .u8 (M : Int)] 23)).alloc (.cells #[.bool false, .string ⟨#[]⟩, .int .i16 0] 69)).cell? ⟨w.heap.size, 0, none⟩ = some (.int .u8 (E : Int)) ∧ ((w.alloc (.cells #[.int .u8 (E : Int), .int .u8 (M : Int)] 23)).alloc (.cells #[.bool false, .string ⟨#[]⟩, .int .i16 0] 69)).cell? ⟨w.heap.size, 1, none⟩ = some (.int .u8 (M : Int)) ∧ (∀ o, ((w.alloc (.cells #[.int .u8 (E : Int), .int .u8 (M : Int)] 23)).alloc (.cells #[.bool false, .string ⟨#[]⟩, .int .i16 0] 69)).frozen? ⟨w.heap.size, o, none⟩ = false) ∧ w.heap.size < ((w.alloc (.cells #[.int .u8 (E : Int), .int .u8 (M : Int)] 23)).alloc (.cells #[.bool false, .string ⟨#[]⟩, .int .i16 0] 69)).heap.size) ∧ (((w.alloc (.cells #[.int .u8 (E : Int), .int .u8 (M : Int)] 23)).alloc (.cells #[.bool false, .string ⟨#[]⟩, .int .i16 0] 69)).cell? ⟨(w.heap.size + 1), 0, none⟩ = some (.bool false) ∧ ((w.alloc (.cells #[.int .u8 (E : Int), .int .u8 (M : Int)] 23)).alloc (.cells #[.bool false, .string ⟨#[]⟩, .int .i16 0] 69)).cell? ⟨(w.heap.size + 1), 1, none⟩ = some (.string ⟨#[]⟩) ∧ ((w.alloc (.cells #[.int .u8 (E : Int), .int .u8 (M : Int)] 23)).alloc (.cells #[.bool false, .string ⟨#[]⟩, .int .i16 0] 69)).cell? ⟨(w.heap.size + 1), 2, none⟩ = some (.int .i16 0) ∧ (∀ o, ((w.alloc (.cells #[.int .u8 (E : Int), .int .u8 (M : Int)] 23)).alloc (.cells #[.bool false, .string ⟨#[]⟩, .int .i16 0] 69)).frozen? ⟨(w.heap.size + 1), o, none⟩ = false) ∧ (w.heap.size + 1) < ((w.alloc (.cells #[.int .u8 (E : Int), .int .u8 (M : Int)] 23)).alloc (.cells #[.bool false, .string ⟨#[]⟩, .int .i16 0] 69)).heap.size) ∧ Below w.heap.size w ((w.alloc (.cells #[.int .u8 (E : Int), .int .u8 (M : Int)] 23)).alloc (.cells #[.bool false, .string ⟨#[]⟩, .int .i16 0] 69)) := ⟨bx2_alloc (bx2_made w (m := w.heap.size) _ _ 23 rfl) _, bx3_made _ (m := w.heap.size + 1) _ _ _ 69 (by simp), ((Below.refl _ _).alloc (Nat.le_refl _) _).alloc (by simp) _⟩
  go_enter Oajg.func111, Oajg.ntmps111
  go_wp2_with fail
  refine Calls.mono (HOK.out _) ?_
  rintro _ w1 ⟨rfl, hb⟩
  replace hS := q23z_next hS hb
  clear hb HOK
  go_wp2_with fail
  refine Calls.mono (HO.out _) ?_
  rintro _ w2 ⟨a1, k1, c1, a2, k2, c2, rfl, hN1, hN2, hb⟩
  replace hS := q23z_next hS hb
  have hob : w.heap.size + 1 < w2.heap.size := hS.2.1.2.2.2.2
  have n1 : w.heap.size + 1 ≠ w2.heap.size := by omega
  have HB := hid_mk hS.2.2
  have hR := hS.2.1
  clear hN1 hN2 hb HO
  go_wp2_with fail
  refine bodyPost_ret (v := .agg #[.bool false, .string ⟨#[]⟩, .int .i16 0]) (by simp [results, Oajg.results111, go_sem, hR]) rfl ⟨rfl, ?_⟩
  exact (((HB.out.setCell (Nat.le_succ _) _).setCell (Nat.le_succ _) _).setCell (Nat.le_succ _) _).alloc (by simp only [World.size_setCell]; omega) _

set_option maxRecDepth 100000 in
set_option maxHeartbeats 4000000 in
theorem xs_nan (E M x X n d : Nat) (neg G : Bool) (C : Int) (hC0 : (C == 0) = false) (hC3 : (C == 3) = false) (hC4 : (C == 4) = true)
    (HOK : Hid (∀ w, Calls Oajg.prog 17 #[.agg #[.int .u8 (E : Int), .int .u8 (M : Int)]] w fun e w' => e = .returned (.bool true) ∧ Below w.heap.size w w'))
    (HO : Hid (∀ w, Calls Oajg.prog 63 #[.agg #[.int .u8 (E : Int), .int .u8 (M : Int)], .int .u64 (x : Int)] w fun e w' => ∃ a1 k1 c1 a2 k2 c2, e = .returned (.agg #[.int .u64 (X : Int), .bool neg, .int .i8 C, .bool G, .slice a1 k1 c1, .slice a2 k2 c2]) ∧ NatIs 2050 w' (.slice a1 k1 c1) n ∧ NatIs 2050 w' (.slice a2 k2 c2) d ∧ Below w.heap.size w w')) (w : World) :
    Calls Oajg.prog 111 #[.agg #[.int .u8 (E : Int), .int .u8 (M : Int)], .int .u64 (x : Int)] w fun e w' => e = .returned (.agg #[.bool false, .string ⟨#[]⟩, .int .i16 0]) ∧ Below w.heap.size w w' := by
  have hS : (((w.alloc (.cells #[.int .u8 (E : Int), .int .u8 (M : Int)] 23)).alloc (.cells #[.bool false, .string ⟨#[]⟩, .int .i16 0] 69)).cell? ⟨w.heap.size, 0, none⟩ = some (.int .u8 (E : Int)) ∧ ((w.alloc (.cells #[.int .u8 (E : Int), .int .u8 (M : Int)] 23)).alloc (.cells #[.bool false, .string ⟨#[]⟩, .int .i16 0] 69)).cell? ⟨w.heap.size, 1, none⟩ = some (.int .u8 (M : Int)) ∧ (∀ o, ((w.alloc (.cells #[.int .u8 (E : Int), .int .u8 (M : Int)] 23)).alloc (.cells #[.bool false, .string ⟨#[]⟩, .int .i16 0] 69)).frozen? ⟨w.heap.size, o, none⟩ = false) ∧ w.heap.size < ((w.alloc (.cells #[.int .u8 (E : Int), .int .u8 (M : Int)] 23)).alloc (.cells #[.bool false, .string ⟨#[]⟩, .int .i16 0] 69)).heap.size) ∧ (((w.alloc (.cells #[.int .u8 (E : Int), .int .u8 (M : Int)] 23)).alloc (.cells #[.bool false, .string ⟨#[]⟩, .int .i16 0] 69)).cell? ⟨(w.heap.size + 1), 0, none⟩ = some (.bool false) ∧ ((w.alloc (.cells #[.int .u8 (E : Int), .int .u8 (M : Int)] 23)).alloc (.cells #[.bool false, .string ⟨#[]⟩, .int .i16 0] 69)).cell? ⟨(w.heap.size + 1), 1, none⟩ = some (.string ⟨#[]⟩) ∧ ((w.alloc (.cells #[.int .u8 (E : Int), .int .u8 (M : Int)] 23)).alloc (.cells #[.bool false, .string ⟨#[]⟩, .int .i16 0] 69)).cell? ⟨(w.heap.size + 1), 2, none⟩ = some (.int .i16 0) ∧ (∀ o, ((w.alloc (.cells #[.int .u8 (E : Int), .int .u8 (M : Int)] 23)).alloc (.cells #[.bool false, .string ⟨#[]⟩, .int .i16 0] 69)).frozen? ⟨(w.heap.size + 1), o, none⟩ = false) ∧ (w.heap.size + 1) < ((w.alloc (.cells #[.int .u8 (E : Int), .int .u8 (M : Int)] 23)).alloc (.cells #[.bool false, .string ⟨#[]⟩, .int .i16 0] 69)).heap.size) ∧ Below w.heap.size w ((w.alloc (.cells #[.int .u8 (E : Int), .int .u8 (M : Int)] 23)).alloc (.cells #[.bool false, .string ⟨#[]⟩, .int .i16 0] 69)) := ⟨bx2_alloc (bx2_made w (m := w.heap.size) _ _ 23 rfl) _, bx3_made _ (m := w.heap.size + 1) _ _ _ 69 (by simp), ((Below.refl _ _).alloc (Nat.le_refl _) _).alloc (by simp) _⟩
  go_enter Oajg.func111, Oajg.ntmps111
  go_wp2_with fail
  refine Calls.mono (HOK.out _) ?_
  rintro _ w1 ⟨rfl, hb⟩
  replace hS := q23z_next hS hb
  clear hb HOK
  go_wp2_with fail
  refine Calls.mono (HO.out _) ?_
  rintro _ w2 ⟨a1, k1, c1, a2, k2, c2, rfl, hN1, hN2, hb⟩
  replace hS := q23z_next hS hb
  have hob : w.heap.size + 1 < w2.heap.size := hS.2.1.2.2.2.2
  have n1 : w.heap.size + 1 ≠ w2.heap.size := by omega
  have HB := hid_mk hS.2.2
  have hR := hS.2.1
  clear hN1 hN2 hb HO
  go_wp2_with fail
  refine bodyPost_ret (v := .agg #[.bool false, .string ⟨#[]⟩, .int .i16 0]) (by simp [results, Oajg.results111, go_sem, hR]) rfl ⟨rfl, ?_⟩
  exact (((HB.out.setCell (Nat.le_succ _) _).setCell (Nat.le_succ _) _).setCell (Nat.le_succ _) _).alloc (by simp only [World.size_setCell]; omega) _

end Go.Proofs.Ygcoaj
