/-
  WALKS: ieee.Format's methods Ok, SignBit, Mask, Bias.
-/
import Derived.Test.YgcoajProg
import Derived.WalkKit
import Derived.WalkSpells
import Derived.WalkLawsBesides
import Derived.Deep.QuietTactic
import Derived.BigQuiet
set_option linter.unusedVariables false
set_option linter.unusedSimpArgs false
namespace Go.Proofs.Ygcoaj
open Go.RowKit

structure FOk (E M : Nat) : Prop where
  e2 : 2 ≤ E
  e11 : E ≤ 11
  m2 : 2 ≤ M
  m52 : M ≤ 52

def okB (E M : Nat) : Bool := decide (2 ≤ E ∧ E ≤ 11 ∧ 2 ≤ M ∧ M ≤ 52)

theorem ret_bool {a b : Bool} (h : a = b) : Ending.returned (.bool a) = .returned (.bool b) := by rw [h]

set_option maxRecDepth 100000 in
set_option maxHeartbeats 1000000 in
theorem ok_any (E M : Nat) (w : World) :
    Calls Oajg.prog 17 #[.agg #[.int .u8 (E : Int), .int .u8 (M : Int)]] w fun e w' => e = .returned (.bool (okB E M)) ∧ Below w.heap.size w w' := by
  have HB : Hid (Below w.heap.size w (w.alloc (.cells #[.int .u8 (E : Int), .int .u8 (M : Int)] 23))) := (Below.refl _ _).alloc (Nat.le_refl _) _
  go_enter Oajg.func17, Oajg.ntmps17
  go_wp2_with fail
  all_goals go_ret
  all_goals exact ⟨ret_bool (by unfold okB; rw [eq_comm]; first | (rw [decide_eq_false_iff_not]; omega) | (rw [decide_eq_decide]; omega)), HB.out⟩

theorem okB_true {E M : Nat} (h : FOk E M) : okB E M = true := by obtain ⟨a, b, c, d⟩ := h; simp [okB, *]
theorem okB_spec {E M : Nat} (h : okB E M = true) : FOk E M := by simp only [okB, decide_eq_true_eq] at h; exact ⟨h.1, h.2.1, h.2.2.1, h.2.2.2⟩

def fmtw (E M : Nat) (w : World) : World := w.alloc (.cells #[.int .u8 (E : Int), .int .u8 (M : Int)] 23)

theorem pow2_lt64 (n : Nat) (h : n ≤ 63) : 2 ^ n ≤ 9223372036854775808 := by
  have : 2 ^ n ≤ 2 ^ 63 := Nat.pow_le_pow_right (by decide) h
  omega
theorem pow2_pos (n : Nat) : 1 ≤ 2 ^ n := Nat.one_le_two_pow

theorem bfacts' {W w1 : World} (hb : Below W.heap.size W w1) :
    (∀ b o, b < W.heap.size → w1.cell? ⟨b, o, none⟩ = W.cell? ⟨b, o, none⟩) ∧ (∀ b o, b < W.heap.size → w1.frozen? ⟨b, o, none⟩ = W.frozen? ⟨b, o, none⟩) ∧ W.heap.size ≤ w1.heap.size :=
  ⟨fun b o h => hb.cell (p := ⟨b, o, none⟩) h, fun b o h => hb.frozen (p := ⟨b, o, none⟩) h, hb.size⟩
theorem below_then {w W w1 : World} (h : Below w.heap.size w W) (hb : Below W.heap.size W w1) : Below w.heap.size w w1 := h.trans (hb.mono h.size)

theorem boxed (w : World) (E M : Nat) : Below w.heap.size w (w.alloc (.cells #[.int .u8 (E : Int), .int .u8 (M : Int)] 23)) := (Below.refl _ _).alloc (Nat.le_refl _) _

theorem ok_yes {E M : Nat} (h : FOk E M) (w : World) : Calls Oajg.prog 17 #[.agg #[.int .u8 (E : Int), .int .u8 (M : Int)]] w fun e w' => e = .returned (.bool true) ∧ Below w.heap.size w w' := by
  have := ok_any E M w; rw [okB_true h] at this; exact this
theorem ok_not {E M : Nat} (h : okB E M = false) (w : World) : Calls Oajg.prog 17 #[.agg #[.int .u8 (E : Int), .int .u8 (M : Int)]] w fun e w' => e = .returned (.bool false) ∧ Below w.heap.size w w' := by
  have := ok_any E M w; rw [h] at this; exact this

theorem i16_wrap (n : Int) : IntKind.i16.wrap n = (n + 32768) % 65536 - 32768 := by
  simp only [IntKind.wrap, IntKind.bits, IntKind.signed]; simp; split <;> omega
theorem ret_u64 {a b : Int} (h : a = b) : Ending.returned (.int .u64 a) = .returned (.int .u64 b) := by rw [h]
theorem ret_i16 {a b : Int} (h : a = b) : Ending.returned (.int .i16 a) = .returned (.int .i16 b) := by rw [h]
theorem wrap64 {n : Nat} (h : n < 18446744073709551616) : IntKind.u64.wrap (n : Int) = (n : Int) := by rw [IntKind.wrap_u64]; omega
theorem wrap64' {x : Int} {n : Nat} (e : x = (n : Int)) (h : n < 18446744073709551616) : IntKind.u64.wrap x = (n : Int) := by rw [e]; exact wrap64 h

set_option maxRecDepth 100000 in
set_option maxHeartbeats 1000000 in
theorem signBit_ok (E M : Nat) (h : FOk E M) (w : World) :
    Calls Oajg.prog 105 #[.agg #[.int .u8 (E : Int), .int .u8 (M : Int)]] w fun e w' => e = .returned (.int .u64 ((2 ^ (E + M) : Nat) : Int)) ∧ Below w.heap.size w w' := by
  have HB : Hid (Below w.heap.size w (w.alloc (.cells #[.int .u8 (E : Int), .int .u8 (M : Int)] 23))) := boxed _ _ _
  have HO : Hid (∀ w, Calls Oajg.prog 17 #[.agg #[.int .u8 (E : Int), .int .u8 (M : Int)]] w fun e w' => e = .returned (.bool true) ∧ Below w.heap.size w w') := ok_yes h
  obtain ⟨a, b, c, d⟩ := h
  have k1 : IntKind.u64.wrap (2 ^ (E + M)) = ((2 ^ (E + M) : Nat) : Int) := wrap64' (by push_cast; rfl) (by have := pow2_lt64 (E + M) (by omega); omega)
  go_enter Oajg.func105, Oajg.ntmps105
  go_wp2_with fail
  refine Calls.mono (HO.out _) ?_
  rintro _ w0 ⟨rfl, hb⟩
  have HB0 : Hid (Below w.heap.size w w0) := below_then HB.out hb
  obtain ⟨hc, hf, hz⟩ := bfacts' hb
  simp only [World.size_alloc] at hc hf hz
  clear hb
  go_wp2_with fail
  go_ret
  exact ⟨ret_u64 k1, HB0.out⟩

set_option maxRecDepth 100000 in
set_option maxHeartbeats 1000000 in
theorem signBit_not (E M : Nat) (h : okB E M = false) (w : World) :
    Calls Oajg.prog 105 #[.agg #[.int .u8 (E : Int), .int .u8 (M : Int)]] w fun e w' => e = .returned (.int .u64 0) ∧ Below w.heap.size w w' := by
  have HB : Hid (Below w.heap.size w (w.alloc (.cells #[.int .u8 (E : Int), .int .u8 (M : Int)] 23))) := boxed _ _ _
  have HO : Hid (∀ w, Calls Oajg.prog 17 #[.agg #[.int .u8 (E : Int), .int .u8 (M : Int)]] w fun e w' => e = .returned (.bool false) ∧ Below w.heap.size w w') := ok_not h
  go_enter Oajg.func105, Oajg.ntmps105
  go_wp2_with fail
  refine Calls.mono (HO.out _) ?_
  rintro _ w0 ⟨rfl, hb⟩
  have HB0 : Hid (Below w.heap.size w w0) := below_then HB.out hb
  obtain ⟨hc, hf, hz⟩ := bfacts' hb
  simp only [World.size_alloc] at hc hf hz
  clear hb
  go_wp2_with fail
  go_ret
  exact ⟨rfl, HB0.out⟩

set_option maxRecDepth 100000 in
set_option maxHeartbeats 1000000 in
theorem mask_ok (E M : Nat) (h : FOk E M) (w : World) :
    Calls Oajg.prog 116 #[.agg #[.int .u8 (E : Int), .int .u8 (M : Int)]] w fun e w' => e = .returned (.int .u64 ((2 * 2 ^ (E + M) - 1 : Nat) : Int)) ∧ Below w.heap.size w w' := by
  have HB : Hid (Below w.heap.size w (w.alloc (.cells #[.int .u8 (E : Int), .int .u8 (M : Int)] 23))) := boxed _ _ _
  have HO : Hid (∀ w, Calls Oajg.prog 17 #[.agg #[.int .u8 (E : Int), .int .u8 (M : Int)]] w fun e w' => e = .returned (.bool true) ∧ Below w.heap.size w w') := ok_yes h
  have HS : Hid (∀ w, Calls Oajg.prog 105 #[.agg #[.int .u8 (E : Int), .int .u8 (M : Int)]] w fun e w' => e = .returned (.int .u64 ((2 ^ (E + M) : Nat) : Int)) ∧ Below w.heap.size w w') := signBit_ok E M h
  obtain ⟨a, b, c, d⟩ := h
  have p1 := pow2_lt64 (E + M) (by omega)
  have p2 := pow2_pos (E + M)
  generalize 2 ^ (E + M) = P at p1 p2 HS ⊢
  have k1 : IntKind.u64.wrap (IntKind.u64.wrap ((P : Int) * 2) - 1) = ((2 * P - 1 : Nat) : Int) := by simp only [IntKind.wrap_u64]; omega
  generalize 2 * P - 1 = R at k1 ⊢
  go_enter Oajg.func116, Oajg.ntmps116
  go_wp2_with fail
  refine Calls.mono (HO.out _) ?_
  rintro _ w0 ⟨rfl, hb⟩
  have HB0 : Hid (Below w.heap.size w w0) := below_then HB.out hb
  obtain ⟨hc, hf, hz⟩ := bfacts' hb
  simp only [World.size_alloc] at hc hf hz
  clear hb
  go_wp2_with fail
  refine Calls.mono (HS.out _) ?_
  rintro _ w1 ⟨rfl, hb⟩
  have HB1 : Hid (Below w.heap.size w w1) := below_then HB0.out hb
  clear hb
  go_wp2_with fail
  go_ret
  exact ⟨rfl, HB1.out⟩

set_option maxRecDepth 100000 in
set_option maxHeartbeats 1000000 in
theorem bias_ok (E M : Nat) (h : FOk E M) (w : World) :
    Calls Oajg.prog 129 #[.agg #[.int .u8 (E : Int), .int .u8 (M : Int)]] w fun e w' => e = .returned (.int .i16 ((2 ^ (E - 1) - 1 : Nat) : Int)) ∧ Below w.heap.size w w' := by
  have HB : Hid (Below w.heap.size w (w.alloc (.cells #[.int .u8 (E : Int), .int .u8 (M : Int)] 23))) := boxed _ _ _
  have HO : Hid (∀ w, Calls Oajg.prog 17 #[.agg #[.int .u8 (E : Int), .int .u8 (M : Int)]] w fun e w' => e = .returned (.bool true) ∧ Below w.heap.size w w') := ok_yes h
  obtain ⟨a, b, c, d⟩ := h
  obtain ⟨E, rfl⟩ : ∃ e, E = e + 1 := ⟨E - 1, by omega⟩
  have p1 : 2 ^ E ≤ 2 ^ 10 := Nat.pow_le_pow_right (by decide) (by omega)
  have p2 := pow2_pos E
  have k1 : IntKind.i16.wrap (IntKind.i16.wrap (2 ^ E) - 1) = ((2 ^ E - 1 : Nat) : Int) := by
    have : (2 : Int) ^ E = ((2 ^ E : Nat) : Int) := by push_cast; rfl
    rw [this]; simp only [i16_wrap]; omega
  rw [Nat.add_sub_cancel]
  generalize 2 ^ E - 1 = R at k1 ⊢
  clear p1 p2
  push_cast at HO HB ⊢
  go_enter Oajg.func129, Oajg.ntmps129
  go_wp2_with fail
  refine Calls.mono (HO.out _) ?_
  rintro _ w0 ⟨rfl, hb⟩
  have HB0 : Hid (Below w.heap.size w w0) := below_then HB.out hb
  obtain ⟨hc, hf, hz⟩ := bfacts' hb
  simp only [World.size_alloc] at hc hf hz
  clear hb
  go_wp2_with fail
  go_ret
  exact ⟨rfl, HB0.out⟩

end Go.Proofs.Ygcoaj
