/-
  WALKS: ieee.signed, Inf, MaxFinite, TheNaN.
-/
import Derived.Test.YgcoajIe0
import Derived.Deep.RegionHeld3
set_option linter.unusedVariables false
set_option linter.unusedSimpArgs false
namespace Go.Proofs.Ygcoaj
open Go.RowKit

theorem wpow {k : Nat} (h : k ≤ 63) : IntKind.u64.wrap (2 ^ k) = ((2 ^ k : Nat) : Int) := wrap64' (by push_cast; rfl) (by have := pow2_lt64 k h; omega)
def sgnd (E M : Nat) (neg : Bool) (x : Nat) : Nat := if neg then x + 2 ^ (E + M) else x

theorem or_top {x k : Nat} (h : x < 2 ^ k) : x ||| 2 ^ k = x + 2 ^ k := by
  rw [Nat.or_comm, ← Nat.mul_one (2 ^ k), Nat.two_pow_add_eq_or_of_lt h 1 |>.symm]; omega

set_option maxRecDepth 100000 in
set_option maxHeartbeats 1000000 in
theorem signed_ok (E M : Nat) (h : FOk E M) (neg : Bool) (x : Nat) (hx : x < 2 ^ (E + M)) (w : World) :
    Calls Oajg.prog 131 #[.agg #[.int .u8 (E : Int), .int .u8 (M : Int)], .bool neg, .int .u64 (x : Int)] w fun e w' => e = .returned (.int .u64 (sgnd E M neg x : Nat)) ∧ Below w.heap.size w w' := by
  have HB : Hid (Below w.heap.size w (w.alloc (.cells #[.int .u8 (E : Int), .int .u8 (M : Int)] 23))) := boxed _ _ _
  have HS : Hid (∀ w, Calls Oajg.prog 105 #[.agg #[.int .u8 (E : Int), .int .u8 (M : Int)]] w fun e w' => e = .returned (.int .u64 ((2 ^ (E + M) : Nat) : Int)) ∧ Below w.heap.size w w') := signBit_ok E M h
  obtain ⟨a, b, c, d⟩ := h
  have p1 := pow2_lt64 (E + M) (by omega)
  have HR : Hid (x ||| 2 ^ (E + M) = x + 2 ^ (E + M)) := or_top hx
  cases neg with
  | false =>
    unfold sgnd
    go_enter Oajg.func131, Oajg.ntmps131
    go_wp2_with fail
    go_ret
    exact ⟨rfl, HB.out⟩
  | true =>
    unfold sgnd
    generalize 2 ^ (E + M) = P at *
    have k1 : bits .or .u64 (x : Int) (P : Int) = ((x + P : Nat) : Int) := by rw [bits_or_u64_nat _ _ (by omega) (by omega), HR.out]
    generalize hq : x + P = Q at k1 ⊢
    go_enter Oajg.func131, Oajg.ntmps131
    go_wp2_with fail
    refine Calls.mono (HS.out _) ?_
    rintro _ w1 ⟨rfl, hb⟩
    have HB1 : Hid (Below w.heap.size w w1) := below_then HB.out hb
    clear hb
    go_wp2_with fail
    all_goals go_ret
    all_goals exact ⟨rfl, HB1.out⟩

set_option maxRecDepth 100000 in
set_option maxHeartbeats 1000000 in
theorem inf_ok (E M : Nat) (h : FOk E M) (neg : Bool) (w : World) :
    Calls Oajg.prog 84 #[.agg #[.int .u8 (E : Int), .int .u8 (M : Int)], .bool neg] w fun e w' => e = .returned (.int .u64 (sgnd E M neg ((2 ^ E - 1) * 2 ^ M) : Nat)) ∧ Below w.heap.size w w' := by
  have HB : Hid (Below w.heap.size w (w.alloc (.cells #[.int .u8 (E : Int), .int .u8 (M : Int)] 23))) := boxed _ _ _
  have HO : Hid (∀ w, Calls Oajg.prog 17 #[.agg #[.int .u8 (E : Int), .int .u8 (M : Int)]] w fun e w' => e = .returned (.bool true) ∧ Below w.heap.size w w') := ok_yes h
  have hlt : (2 ^ E - 1) * 2 ^ M < 2 ^ (E + M) := by
    rw [Nat.pow_add]; exact Nat.mul_lt_mul_of_pos_right (by have := pow2_pos E; omega) (pow2_pos M)
  have HS : Hid (∀ w, Calls Oajg.prog 131 #[.agg #[.int .u8 (E : Int), .int .u8 (M : Int)], .bool neg, .int .u64 (((2 ^ E - 1) * 2 ^ M : Nat) : Int)] w fun e w' => e = .returned (.int .u64 (sgnd E M neg ((2 ^ E - 1) * 2 ^ M) : Nat)) ∧ Below w.heap.size w w') := fun w => signed_ok E M h neg _ hlt w
  obtain ⟨a, b, c, d⟩ := h
  have p1 := pow2_lt64 (E + M) (by omega)
  have p2 := pow2_lt64 E (by omega)
  have p3 := pow2_pos E
  have k1 : IntKind.u64.wrap (IntKind.u64.wrap (IntKind.u64.wrap (2 ^ E) - 1) * 2 ^ M) = (((2 ^ E - 1) * 2 ^ M : Nat) : Int) := by
    rw [wpow (by omega), wrap64' (x := ((2 ^ E : Nat) : Int) - 1) (n := 2 ^ E - 1) (by omega) (by omega)]
    exact wrap64' (by push_cast; rfl) (by omega)
  generalize (2 ^ E - 1) * 2 ^ M = R at HS k1 ⊢
  generalize sgnd E M neg R = Q at HS ⊢
  clear p1 p2 p3 hlt
  go_enter Oajg.func84, Oajg.ntmps84
  go_wp2_with fail
  refine Calls.mono (HO.out _) ?_
  rintro _ w0 ⟨rfl, hb⟩
  have HB0 : Hid (Below w.heap.size w w0) := below_then HB.out hb
  obtain ⟨hc, hf, hz⟩ := bfacts' hb
  simp only [World.size_alloc] at hc hf hz
  clear hb
  go_wp2_with fail
  refine Calls.mono (HS.out _) ?_
  rintro _ w1 ⟨rfl, hb⟩
  have HB1 : Hid (Below w.heap.size w w1) := below_then HB0.out hb
  clear hb
  go_wp2_with fail
  go_ret
  exact ⟨rfl, HB1.out⟩

set_option maxRecDepth 100000 in
set_option maxHeartbeats 1000000 in
theorem maxFinite_ok (E M : Nat) (h : FOk E M) (neg : Bool) (w : World) :
    Calls Oajg.prog 169 #[.agg #[.int .u8 (E : Int), .int .u8 (M : Int)], .bool neg] w fun e w' => e = .returned (.int .u64 (sgnd E M neg ((2 ^ E - 1) * 2 ^ M - 1) : Nat)) ∧ Below w.heap.size w w' := by
  have HB : Hid (Below w.heap.size w (w.alloc (.cells #[.int .u8 (E : Int), .int .u8 (M : Int)] 23))) := boxed _ _ _
  have HO : Hid (∀ w, Calls Oajg.prog 17 #[.agg #[.int .u8 (E : Int), .int .u8 (M : Int)]] w fun e w' => e = .returned (.bool true) ∧ Below w.heap.size w w') := ok_yes h
  have hlt : (2 ^ E - 1) * 2 ^ M < 2 ^ (E + M) := by
    rw [Nat.pow_add]; exact Nat.mul_lt_mul_of_pos_right (by have := pow2_pos E; omega) (pow2_pos M)
  have hpos : 1 ≤ (2 ^ E - 1) * 2 ^ M := Nat.mul_pos (by have : 2 ^ 2 ≤ 2 ^ E := Nat.pow_le_pow_right (by decide) h.e2
                                                         omega) (pow2_pos M)
  have HS : Hid (∀ w, Calls Oajg.prog 131 #[.agg #[.int .u8 (E : Int), .int .u8 (M : Int)], .bool neg, .int .u64 (((2 ^ E - 1) * 2 ^ M - 1 : Nat) : Int)] w fun e w' => e = .returned (.int .u64 (sgnd E M neg ((2 ^ E - 1) * 2 ^ M - 1) : Nat)) ∧ Below w.heap.size w w') := fun w => signed_ok E M h neg _ (by omega) w
  obtain ⟨a, b, c, d⟩ := h
  have p1 := pow2_lt64 (E + M) (by omega)
  have p2 := pow2_lt64 E (by omega)
  have p3 := pow2_pos E
  have k1 : IntKind.u64.wrap (IntKind.u64.wrap (IntKind.u64.wrap (IntKind.u64.wrap (2 ^ E) - 1) * 2 ^ M) - 1) = (((2 ^ E - 1) * 2 ^ M - 1 : Nat) : Int) := by
    rw [wpow (by omega), wrap64' (x := ((2 ^ E : Nat) : Int) - 1) (n := 2 ^ E - 1) (by omega) (by omega)]
    rw [wrap64' (x := ((2 ^ E - 1 : Nat) : Int) * 2 ^ M) (n := (2 ^ E - 1) * 2 ^ M) (by push_cast; rfl) (by omega)]
    exact wrap64' (by omega) (by omega)
  generalize (2 ^ E - 1) * 2 ^ M - 1 = R at HS k1 ⊢
  generalize sgnd E M neg R = Q at HS ⊢
  clear p1 p2 p3 hlt
  go_enter Oajg.func169, Oajg.ntmps169
  go_wp2_with fail
  refine Calls.mono (HO.out _) ?_
  rintro _ w0 ⟨rfl, hb⟩
  have HB0 : Hid (Below w.heap.size w w0) := below_then HB.out hb
  obtain ⟨hc, hf, hz⟩ := bfacts' hb
  simp only [World.size_alloc] at hc hf hz
  clear hb
  go_wp2_with fail
  refine Calls.mono (HS.out _) ?_
  rintro _ w1 ⟨rfl, hb⟩
  have HB1 : Hid (Below w.heap.size w w1) := below_then HB0.out hb
  clear hb
  go_wp2_with fail
  go_ret
  exact ⟨rfl, HB1.out⟩

/-- a format's box, the worlds behind it -/
theorem sf_next {w W W' : World} {b E M : Nat} (h : W.cell? ⟨b, 0, none⟩ = some (.int .u8 (E : Int)) ∧ W.cell? ⟨b, 1, none⟩ = some (.int .u8 (M : Int)) ∧ b < W.heap.size ∧ Below w.heap.size w W) (hb : Below W.heap.size W W') :
    W'.cell? ⟨b, 0, none⟩ = some (.int .u8 (E : Int)) ∧ W'.cell? ⟨b, 1, none⟩ = some (.int .u8 (M : Int)) ∧ b < W'.heap.size ∧ Below w.heap.size w W' :=
  ⟨(hb.cell (p := ⟨b, 0, none⟩) h.2.2.1).trans h.1, (hb.cell (p := ⟨b, 1, none⟩) h.2.2.1).trans h.2.1, Nat.lt_of_lt_of_le h.2.2.1 hb.size, below_then h.2.2.2 hb⟩
theorem sf_drew {w W : World} {b E M : Nat} (h : W.cell? ⟨b, 0, none⟩ = some (.int .u8 (E : Int)) ∧ W.cell? ⟨b, 1, none⟩ = some (.int .u8 (M : Int)) ∧ b < W.heap.size ∧ Below w.heap.size w W) :
    W.drew.cell? ⟨b, 0, none⟩ = some (.int .u8 (E : Int)) ∧ W.drew.cell? ⟨b, 1, none⟩ = some (.int .u8 (M : Int)) ∧ b < W.drew.heap.size ∧ Below w.heap.size w W.drew :=
  ⟨h.1, h.2.1, h.2.2.1, h.2.2.2.drew⟩
theorem sf_box (w : World) (E M : Nat) : (w.alloc (.cells #[.int .u8 (E : Int), .int .u8 (M : Int)] 23)).cell? ⟨w.heap.size, 0, none⟩ = some (.int .u8 (E : Int)) ∧ (w.alloc (.cells #[.int .u8 (E : Int), .int .u8 (M : Int)] 23)).cell? ⟨w.heap.size, 1, none⟩ = some (.int .u8 (M : Int)) ∧ w.heap.size < (w.alloc (.cells #[.int .u8 (E : Int), .int .u8 (M : Int)] 23)).heap.size ∧ Below w.heap.size w (w.alloc (.cells #[.int .u8 (E : Int), .int .u8 (M : Int)] 23)) :=
  ⟨by simp [go_sem], by simp [go_sem], by simp, boxed _ _ _⟩

set_option maxRecDepth 100000 in
set_option maxHeartbeats 1000000 in
theorem nan_ok (E M : Nat) (h : FOk E M) (w : World) :
    Calls Oajg.prog 64 #[.agg #[.int .u8 (E : Int), .int .u8 (M : Int)]] w fun e w' => e = .returned (.int .u64 ((2 ^ E - 1) * 2 ^ M + 2 ^ (M - 1) : Nat)) ∧ Below w.heap.size w w' := by
  have hbx := sf_box w E M
  have HO : Hid (∀ w, Calls Oajg.prog 17 #[.agg #[.int .u8 (E : Int), .int .u8 (M : Int)]] w fun e w' => e = .returned (.bool true) ∧ Below w.heap.size w w') := ok_yes h
  have HS : Hid (∀ w, Calls Oajg.prog 84 #[.agg #[.int .u8 (E : Int), .int .u8 (M : Int)], .bool false] w fun e w' => e = .returned (.int .u64 (((2 ^ E - 1) * 2 ^ M : Nat) : Int)) ∧ Below w.heap.size w w') := inf_ok E M h false
  obtain ⟨a, b, c, d⟩ := h
  have k1 : IntKind.u64.wrap (2 ^ (M - 1)) = ((2 ^ (M - 1) : Nat) : Int) := wpow (by omega)
  have hlt : (2 ^ E - 1) * 2 ^ M < 2 ^ (E + M) := by
    rw [Nat.pow_add]; exact Nat.mul_lt_mul_of_pos_right (by have := pow2_pos E; omega) (pow2_pos M)
  have p1 := pow2_lt64 (E + M) (by omega)
  have p2 := pow2_lt64 (M - 1) (by omega)
  have k2 : bits .or .u64 (((2 ^ E - 1) * 2 ^ M : Nat) : Int) ((2 ^ (M - 1) : Nat) : Int) = (((2 ^ E - 1) * 2 ^ M + 2 ^ (M - 1) : Nat) : Int) := by
    rw [bits_or_u64_nat _ _ (by omega) (by omega), Nat.mul_comm (2 ^ E - 1), Nat.two_pow_add_eq_or_of_lt (Nat.pow_lt_pow_right (by decide) (by omega))]
  have k3 : IntKind.u8.wrap ((M : Int) - 1) = ((M - 1 : Nat) : Int) := by rw [IntKind.wrap_u8]; omega
  have k4 : min (M - 1) 64 = M - 1 := by omega
  generalize (2 ^ E - 1) * 2 ^ M + 2 ^ (M - 1) = R at k2 ⊢
  generalize (2 ^ E - 1) * 2 ^ M = Q at k2 HS p1 hlt
  generalize 2 ^ (M - 1) = P at k1 k2 p2
  clear p1 p2 hlt
  go_enter Oajg.func64, Oajg.ntmps64
  go_wp2_with fail
  refine Calls.mono (HO.out _) ?_
  rintro _ w0 ⟨rfl, hb⟩
  have hq := sf_next hbx hb
  clear hbx hb
  go_wp2_with fail
  go_region_held3 (fun W => W.cell? ⟨w.heap.size, 0, none⟩ = some (.int .u8 (E : Int)) ∧ W.cell? ⟨w.heap.size, 1, none⟩ = some (.int .u8 (M : Int)) ∧ w.heap.size < W.heap.size ∧ Below w.heap.size w W) ((first | assumption | exact sf_drew (by assumption))) ((go_at_call 84; refine Calls.mono (HS.out _) ?_; rintro _ w1 ⟨rfl, hb⟩; have hq1 := sf_next (by assumption) hb; clear hb))
  go_wp2_with fail
  go_ret
  exact ⟨rfl, hq1.2.2.2⟩

end Go.Proofs.Ygcoaj
