/-
  WALKS: ryu.Shortest (110) at zeros, infinities, NaNs.
-/
import Derived.Test.YgcoajRy13
set_option linter.unusedVariables false
set_option linter.unusedSimpArgs false
namespace Go.Proofs.Ygcoaj
open Go.RowKit

set_option maxRecDepth 100000 in
set_option maxHeartbeats 4000000 in
theorem rs_zero (E M x tb : Nat) (h : FOk E M) (hx : x < 18446744073709551616) (hF : fExp E M x = 0) (hf : fMan M x = 0) (w : World) :
    Calls Oajg.prog 110 #[.pointer (some ⟨tb, 0, none⟩), .agg #[.int .u8 (E : Int), .int .u8 (M : Int)], .int .u64 (x : Int)] w fun e w' => e = .returned (.agg #[.bool (fNeg E M x), .string ⟨#[]⟩, .int .i16 0]) ∧ Below w.heap.size w w' := by
  have hS : (((w.alloc (.cells #[.int .u8 (E : Int), .int .u8 (M : Int)] 23)).alloc (.cells #[.bool false, .string ⟨#[]⟩, .int .i16 0] 69)).cell? ⟨w.heap.size, 0, none⟩ = some (.int .u8 (E : Int)) ∧ ((w.alloc (.cells #[.int .u8 (E : Int), .int .u8 (M : Int)] 23)).alloc (.cells #[.bool false, .string ⟨#[]⟩, .int .i16 0] 69)).cell? ⟨w.heap.size, 1, none⟩ = some (.int .u8 (M : Int)) ∧ (∀ o, ((w.alloc (.cells #[.int .u8 (E : Int), .int .u8 (M : Int)] 23)).alloc (.cells #[.bool false, .string ⟨#[]⟩, .int .i16 0] 69)).frozen? ⟨w.heap.size, o, none⟩ = false) ∧ w.heap.size < ((w.alloc (.cells #[.int .u8 (E : Int), .int .u8 (M : Int)] 23)).alloc (.cells #[.bool false, .string ⟨#[]⟩, .int .i16 0] 69)).heap.size) ∧ (((w.alloc (.cells #[.int .u8 (E : Int), .int .u8 (M : Int)] 23)).alloc (.cells #[.bool false, .string ⟨#[]⟩, .int .i16 0] 69)).cell? ⟨(w.heap.size + 1), 0, none⟩ = some (.bool false) ∧ ((w.alloc (.cells #[.int .u8 (E : Int), .int .u8 (M : Int)] 23)).alloc (.cells #[.bool false, .string ⟨#[]⟩, .int .i16 0] 69)).cell? ⟨(w.heap.size + 1), 1, none⟩ = some (.string ⟨#[]⟩) ∧ ((w.alloc (.cells #[.int .u8 (E : Int), .int .u8 (M : Int)] 23)).alloc (.cells #[.bool false, .string ⟨#[]⟩, .int .i16 0] 69)).cell? ⟨(w.heap.size + 1), 2, none⟩ = some (.int .i16 0) ∧ (∀ o, ((w.alloc (.cells #[.int .u8 (E : Int), .int .u8 (M : Int)] 23)).alloc (.cells #[.bool false, .string ⟨#[]⟩, .int .i16 0] 69)).frozen? ⟨(w.heap.size + 1), o, none⟩ = false) ∧ (w.heap.size + 1) < ((w.alloc (.cells #[.int .u8 (E : Int), .int .u8 (M : Int)] 23)).alloc (.cells #[.bool false, .string ⟨#[]⟩, .int .i16 0] 69)).heap.size) ∧ Below w.heap.size w ((w.alloc (.cells #[.int .u8 (E : Int), .int .u8 (M : Int)] 23)).alloc (.cells #[.bool false, .string ⟨#[]⟩, .int .i16 0] 69)) := ⟨bx2_alloc (bx2_made w (m := w.heap.size) _ _ 23 rfl) _, bx3_made _ (m := w.heap.size + 1) _ _ _ 69 (by simp), ((Below.refl _ _).alloc (Nat.le_refl _) _).alloc (by simp) _⟩
  have HOK := hid_mk (ok_yes h)
  have HSB := hid_mk (signBit_ok E M h)
  have HBI := hid_mk (bias_ok E M h)
  obtain ⟨h2, h11, h3, h52⟩ := h
  have q3 := biasN_le h11
  have p1 := pow2_lt64 (E + M) (by omega)
  have p2 := pow2_lt64 E (by omega)
  have p3 := pow2_pos E
  have p4 := pow2_lt64 M (by omega)
  have p5 := pow2_pos M
  have p6 : 2 ^ E ≤ 2048 := by have : 2 ^ E ≤ 2 ^ 11 := Nat.pow_le_pow_right (by decide) h11
                               omega
  have r1 : fExp E M x < 2 ^ E := Nat.mod_lt _ p3
  have r2 : fMan M x < 2 ^ M := Nat.mod_lt _ p5
  have k1 : bits .and .u64 (x : Int) ((2 ^ (E + M) : Nat) : Int) = ((x &&& 2 ^ (E + M) : Nat) : Int) := bits_and_u64_nat _ _ hx (by omega)
  have k2 : (((x &&& 2 ^ (E + M) : Nat) : Int) != 0) = fNeg E M x := and_pow_ne x (E + M)
  have k3 : IntKind.u64.wrap (IntKind.u64.wrap (2 ^ E) - 1) = ((2 ^ E - 1 : Nat) : Int) := by
    rw [wpow (by omega)]; exact wrap64' (by omega) (by omega)
  have k4 : bits .and .u64 ((x : Int) / 2 ^ M) ((2 ^ E - 1 : Nat) : Int) = ((fExp E M x : Nat) : Int) := by
    have e : (x : Int) / 2 ^ M = ((x / 2 ^ M : Nat) : Int) := by push_cast; rfl
    rw [e, bits_and_u64_nat _ _ (Nat.lt_of_le_of_lt (Nat.div_le_self _ _) hx) (by omega), Nat.and_two_pow_sub_one_eq_mod]; rfl
  have k5 : IntKind.u64.wrap (((2 ^ M : Nat) : Int) - 1) = ((2 ^ M - 1 : Nat) : Int) := wrap64' (by omega) (by omega)
  have k6 : bits .and .u64 (x : Int) ((2 ^ M - 1 : Nat) : Int) = ((fMan M x : Nat) : Int) := by
    rw [bits_and_u64_nat _ _ hx (by omega), Nat.and_two_pow_sub_one_eq_mod]; rfl
  have k7 : bits .or .u64 ((fMan M x : Nat) : Int) ((2 ^ M : Nat) : Int) = ((fMan M x + 2 ^ M : Nat) : Int) := by
    rw [bits_or_u64_nat _ _ (by omega) (by omega), or_top r2]
  have k8 : IntKind.u64.wrap (2 ^ M) = ((2 ^ M : Nat) : Int) := wpow (by omega)
  have k9 : min M 64 = M := by omega
  have k10 : IntKind.i16.wrap (IntKind.i16.wrap (2 ^ E) - 1) = ((2 ^ E - 1 : Nat) : Int) := by
    rw [show (2 : Int) ^ E = ((2 ^ E : Nat) : Int) from by push_cast; rfl]
    rw [show IntKind.i16.wrap ((2 ^ E : Nat) : Int) = ((2 ^ E : Nat) : Int) from by rw [i16_wrap]; omega, i16_wrap]; omega
  have k11 : IntKind.i16.wrap ((fExp E M x : Nat) : Int) = ((fExp E M x : Nat) : Int) := by rw [i16_wrap]; omega
  have bF : (((fExp E M x : Nat) : Int) == ((2 ^ E - 1 : Nat) : Int)) = false := by
    have : 2 ^ 2 ≤ 2 ^ E := Nat.pow_le_pow_right (by decide) h2
    rw [beq_eq_false_iff_ne]; omega
  have bF0 : (((fExp E M x : Nat) : Int) == 0) = true := by rw [beq_iff_eq]; omega
  have bf0 : (((fMan M x : Nat) : Int) == 0) = true := by rw [beq_iff_eq]; omega
  clear hF hf
  clear p1
  generalize 2 ^ (E + M) = PS at k1 k2 HSB
  generalize x &&& PS = X1 at k1 k2
  generalize fNeg E M x = neg at *
  generalize fExp E M x = F at *
  generalize fMan M x = f at *
  generalize 2 ^ M - 1 = P0 at k5 k6
  generalize 2 ^ M = P1 at k5 k7 k8 p4 p5 r2
  generalize 2 ^ E - 1 = P2 at *
  go_enter Oajg.func110, Oajg.ntmps110
  go_wp2_with fail
  refine Calls.mono (HOK.out _) ?_
  rintro _ w1 ⟨rfl, hb⟩
  replace hS := q23z_next hS hb
  clear hb HOK
  go_wp2_with fail
  refine Calls.mono (HSB.out _) ?_
  rintro _ w2 ⟨rfl, hb⟩
  replace hS := q23z_next hS hb
  clear hb HSB
  have hR := hS.2.1
  have HB := hid_mk hS.2.2
  go_wp2_with fail
  exact bodyPost_ret (v := .agg #[.bool neg, .string ⟨#[]⟩, .int .i16 0]) (by simp [results, Oajg.results110, go_sem, hR]) rfl ⟨rfl, ((HB.out.setCell (p := ⟨w.heap.size + 1, 0, none⟩) (Nat.le_succ _) _).setCell (p := ⟨w.heap.size + 1, 1, none⟩) (Nat.le_succ _) _).setCell (p := ⟨w.heap.size + 1, 2, none⟩) (Nat.le_succ _) _⟩

set_option maxRecDepth 100000 in
set_option maxHeartbeats 4000000 in
theorem rs_spec (E M x tb : Nat) (h : FOk E M) (hx : x < 18446744073709551616) (hF : fExp E M x = 2 ^ E - 1) (w : World) :
    Calls Oajg.prog 110 #[.pointer (some ⟨tb, 0, none⟩), .agg #[.int .u8 (E : Int), .int .u8 (M : Int)], .int .u64 (x : Int)] w fun e w' => e = .returned (.agg #[.bool false, .string ⟨#[]⟩, .int .i16 0]) ∧ Below w.heap.size w w' := by
  have hS : (((w.alloc (.cells #[.int .u8 (E : Int), .int .u8 (M : Int)] 23)).alloc (.cells #[.bool false, .string ⟨#[]⟩, .int .i16 0] 69)).cell? ⟨w.heap.size, 0, none⟩ = some (.int .u8 (E : Int)) ∧ ((w.alloc (.cells #[.int .u8 (E : Int), .int .u8 (M : Int)] 23)).alloc (.cells #[.bool false, .string ⟨#[]⟩, .int .i16 0] 69)).cell? ⟨w.heap.size, 1, none⟩ = some (.int .u8 (M : Int)) ∧ (∀ o, ((w.alloc (.cells #[.int .u8 (E : Int), .int .u8 (M : Int)] 23)).alloc (.cells #[.bool false, .string ⟨#[]⟩, .int .i16 0] 69)).frozen? ⟨w.heap.size, o, none⟩ = false) ∧ w.heap.size < ((w.alloc (.cells #[.int .u8 (E : Int), .int .u8 (M : Int)] 23)).alloc (.cells #[.bool false, .string ⟨#[]⟩, .int .i16 0] 69)).heap.size) ∧ (((w.alloc (.cells #[.int .u8 (E : Int), .int .u8 (M : Int)] 23)).alloc (.cells #[.bool false, .string ⟨#[]⟩, .int .i16 0] 69)).cell? ⟨(w.heap.size + 1), 0, none⟩ = some (.bool false) ∧ ((w.alloc (.cells #[.int .u8 (E : Int), .int .u8 (M : Int)] 23)).alloc (.cells #[.bool false, .string ⟨#[]⟩, .int .i16 0] 69)).cell? ⟨(w.heap.size + 1), 1, none⟩ = some (.string ⟨#[]⟩) ∧ ((w.alloc (.cells #[.int .u8 (E : Int), .int .u8 (M : Int)] 23)).alloc (.cells #[.bool false, .string ⟨#[]⟩, .int .i16 0] 69)).cell? ⟨(w.heap.size + 1), 2, none⟩ = some (.int .i16 0) ∧ (∀ o, ((w.alloc (.cells #[.int .u8 (E : Int), .int .u8 (M : Int)] 23)).alloc (.cells #[.bool false, .string ⟨#[]⟩, .int .i16 0] 69)).frozen? ⟨(w.heap.size + 1), o, none⟩ = false) ∧ (w.heap.size + 1) < ((w.alloc (.cells #[.int .u8 (E : Int), .int .u8 (M : Int)] 23)).alloc (.cells #[.bool false, .string ⟨#[]⟩, .int .i16 0] 69)).heap.size) ∧ Below w.heap.size w ((w.alloc (.cells #[.int .u8 (E : Int), .int .u8 (M : Int)] 23)).alloc (.cells #[.bool false, .string ⟨#[]⟩, .int .i16 0] 69)) := ⟨bx2_alloc (bx2_made w (m := w.heap.size) _ _ 23 rfl) _, bx3_made _ (m := w.heap.size + 1) _ _ _ 69 (by simp), ((Below.refl _ _).alloc (Nat.le_refl _) _).alloc (by simp) _⟩
  have HOK := hid_mk (ok_yes h)
  have HSB := hid_mk (signBit_ok E M h)
  have HBI := hid_mk (bias_ok E M h)
  obtain ⟨h2, h11, h3, h52⟩ := h
  have q3 := biasN_le h11
  have p1 := pow2_lt64 (E + M) (by omega)
  have p2 := pow2_lt64 E (by omega)
  have p3 := pow2_pos E
  have p4 := pow2_lt64 M (by omega)
  have p5 := pow2_pos M
  have p6 : 2 ^ E ≤ 2048 := by have : 2 ^ E ≤ 2 ^ 11 := Nat.pow_le_pow_right (by decide) h11
                               omega
  have r1 : fExp E M x < 2 ^ E := Nat.mod_lt _ p3
  have r2 : fMan M x < 2 ^ M := Nat.mod_lt _ p5
  have k1 : bits .and .u64 (x : Int) ((2 ^ (E + M) : Nat) : Int) = ((x &&& 2 ^ (E + M) : Nat) : Int) := bits_and_u64_nat _ _ hx (by omega)
  have k2 : (((x &&& 2 ^ (E + M) : Nat) : Int) != 0) = fNeg E M x := and_pow_ne x (E + M)
  have k3 : IntKind.u64.wrap (IntKind.u64.wrap (2 ^ E) - 1) = ((2 ^ E - 1 : Nat) : Int) := by
    rw [wpow (by omega)]; exact wrap64' (by omega) (by omega)
  have k4 : bits .and .u64 ((x : Int) / 2 ^ M) ((2 ^ E - 1 : Nat) : Int) = ((fExp E M x : Nat) : Int) := by
    have e : (x : Int) / 2 ^ M = ((x / 2 ^ M : Nat) : Int) := by push_cast; rfl
    rw [e, bits_and_u64_nat _ _ (Nat.lt_of_le_of_lt (Nat.div_le_self _ _) hx) (by omega), Nat.and_two_pow_sub_one_eq_mod]; rfl
  have k5 : IntKind.u64.wrap (((2 ^ M : Nat) : Int) - 1) = ((2 ^ M - 1 : Nat) : Int) := wrap64' (by omega) (by omega)
  have k6 : bits .and .u64 (x : Int) ((2 ^ M - 1 : Nat) : Int) = ((fMan M x : Nat) : Int) := by
    rw [bits_and_u64_nat _ _ hx (by omega), Nat.and_two_pow_sub_one_eq_mod]; rfl
  have k7 : bits .or .u64 ((fMan M x : Nat) : Int) ((2 ^ M : Nat) : Int) = ((fMan M x + 2 ^ M : Nat) : Int) := by
    rw [bits_or_u64_nat _ _ (by omega) (by omega), or_top r2]
  have k8 : IntKind.u64.wrap (2 ^ M) = ((2 ^ M : Nat) : Int) := wpow (by omega)
  have k9 : min M 64 = M := by omega
  have k10 : IntKind.i16.wrap (IntKind.i16.wrap (2 ^ E) - 1) = ((2 ^ E - 1 : Nat) : Int) := by
    rw [show (2 : Int) ^ E = ((2 ^ E : Nat) : Int) from by push_cast; rfl]
    rw [show IntKind.i16.wrap ((2 ^ E : Nat) : Int) = ((2 ^ E : Nat) : Int) from by rw [i16_wrap]; omega, i16_wrap]; omega
  have k11 : IntKind.i16.wrap ((fExp E M x : Nat) : Int) = ((fExp E M x : Nat) : Int) := by rw [i16_wrap]; omega
  have bF : (((fExp E M x : Nat) : Int) == ((2 ^ E - 1 : Nat) : Int)) = true := by rw [beq_iff_eq]; omega
  clear hF
  clear p1
  generalize 2 ^ (E + M) = PS at k1 k2 HSB
  generalize x &&& PS = X1 at k1 k2
  generalize fNeg E M x = neg at *
  generalize fExp E M x = F at *
  generalize fMan M x = f at *
  generalize 2 ^ M - 1 = P0 at k5 k6
  generalize 2 ^ M = P1 at k5 k7 k8 p4 p5 r2
  generalize 2 ^ E - 1 = P2 at *
  go_enter Oajg.func110, Oajg.ntmps110
  go_wp2_with fail
  refine Calls.mono (HOK.out _) ?_
  rintro _ w1 ⟨rfl, hb⟩
  replace hS := q23z_next hS hb
  clear hb HOK
  go_wp2_with fail
  refine Calls.mono (HSB.out _) ?_
  rintro _ w2 ⟨rfl, hb⟩
  replace hS := q23z_next hS hb
  clear hb HSB
  have hR := hS.2.1
  have HB := hid_mk hS.2.2
  go_wp2_with fail
  exact bodyPost_ret (v := .agg #[.bool false, .string ⟨#[]⟩, .int .i16 0]) (by simp [results, Oajg.results110, go_sem, hR]) rfl ⟨rfl, ((HB.out.setCell (p := ⟨w.heap.size + 1, 0, none⟩) (Nat.le_succ _) _).setCell (p := ⟨w.heap.size + 1, 1, none⟩) (Nat.le_succ _) _).setCell (p := ⟨w.heap.size + 1, 2, none⟩) (Nat.le_succ _) _⟩

end Go.Proofs.Ygcoaj
