/-
  WALKS: ieee.Signals, exact.heard, soft.heard; ieee.Unpack of a format that is not Ok.
-/
import Derived.Test.YgcoajIe3
set_option linter.unusedVariables false
set_option linter.unusedSimpArgs false
namespace Go.Proofs.Ygcoaj
open Go.RowKit

def sigB (E M x : Nat) : Bool := (upC E M x == 4) && !x.testBit (M - 1)

theorem shr_and_one (x k : Nat) : (((x / 2 ^ k &&& 1 : Nat) : Int) == 0) = !x.testBit k := by
  rw [Nat.and_one_is_mod, Nat.testBit_eq_decide_div_mod_eq]
  have h : x / 2 ^ k % 2 = 0 ∨ x / 2 ^ k % 2 = 1 := by omega
  rcases h with h | h <;> rw [h] <;> rfl

theorem field107_1 (N : Bool) (C V R : Int) : ∀ w : World, (Instr.field 107 (.agg #[.bool N, .int .i8 C, .int .i16 V, .int .u64 R]) 1).run Oajg.prog w = .ok (.int .i8 C) w := fun _ => by kernel_rfl

set_option maxRecDepth 100000 in
set_option maxHeartbeats 2000000 in
theorem signals_ok (E M : Nat) (h : FOk E M) (x : Nat) (hx : x < 18446744073709551616) (w : World) :
    Calls Oajg.prog 117 #[.agg #[.int .u8 (E : Int), .int .u8 (M : Int)], .int .u64 (x : Int)] w fun e w' => e = .returned (.bool (sigB E M x)) ∧ Below w.heap.size w w' := by
  have HU : Hid (∀ w, Calls Oajg.prog 74 #[.agg #[.int .u8 (E : Int), .int .u8 (M : Int)], .int .u64 (x : Int)] w fun e w' => e = .returned (.agg #[.bool (upN E M x), .int .i8 (upC E M x), .int .i16 (upE E M x), .int .u64 (upM E M x : Nat)]) ∧ Below w.heap.size w w') := unpack_ok E M h x hx
  have hS := sf_box w E M
  obtain ⟨a, b, c, d⟩ := h
  unfold sigB
  have k1 : bits .and .u64 ((x : Int) / 2 ^ (M - 1)) 1 = ((x / 2 ^ (M - 1) &&& 1 : Nat) : Int) := by
    have e : (x : Int) / 2 ^ (M - 1) = ((x / 2 ^ (M - 1) : Nat) : Int) := by push_cast; rfl
    rw [e]; exact and_step _ 1 (Nat.lt_of_le_of_lt (Nat.div_le_self _ _) hx) (by decide)
  have k2 := shr_and_one x (M - 1)
  generalize (x / 2 ^ (M - 1) &&& 1 : Nat) = X1 at k1 k2
  generalize x.testBit (M - 1) = tb at *
  generalize upN E M x = N at *
  generalize upC E M x = C at *
  generalize upE E M x = V at *
  generalize upM E M x = R at *
  have k3 : ((M : Int) - 1).toNat = M - 1 := by omega
  have hfd := field107_1 N C V R
  cases hC : (C == 4)
  · go_enter Oajg.func117, Oajg.ntmps117
    go_wp2_with fail
    refine Calls.mono (HU.out _) ?_
    rintro _ w0 ⟨rfl, hb⟩
    replace hS := sf_next hS hb
    clear hb
    go_wp2_with fail
    go_ret
    exact ⟨rfl, hS.2.2.2⟩
  · go_enter Oajg.func117, Oajg.ntmps117
    go_wp2_with fail
    refine Calls.mono (HU.out _) ?_
    rintro _ w0 ⟨rfl, hb⟩
    replace hS := sf_next hS hb
    clear hb
    go_wp2_with fail
    go_ret
    exact ⟨rfl, hS.2.2.2⟩

set_option maxRecDepth 100000 in
set_option maxHeartbeats 2000000 in
theorem heardS_ok (E M : Nat) (h : FOk E M) (x y : Nat) (hx : x < 18446744073709551616) (hy : y < 18446744073709551616) (w : World) :
    Calls Oajg.prog 83 #[.agg #[.int .u8 (E : Int), .int .u8 (M : Int)], .int .u64 (x : Int), .int .u64 (y : Int)] w fun e w' => e = .returned (.int .u8 (if sigB E M x || sigB E M y then 1 else 0)) ∧ Below w.heap.size w w' := by
  have HX : Hid (∀ w, Calls Oajg.prog 117 #[.agg #[.int .u8 (E : Int), .int .u8 (M : Int)], .int .u64 (x : Int)] w fun e w' => e = .returned (.bool (sigB E M x)) ∧ Below w.heap.size w w') := signals_ok E M h x hx
  have HY : Hid (∀ w, Calls Oajg.prog 117 #[.agg #[.int .u8 (E : Int), .int .u8 (M : Int)], .int .u64 (y : Int)] w fun e w' => e = .returned (.bool (sigB E M y)) ∧ Below w.heap.size w w') := signals_ok E M h y hy
  have hS := sf_box w E M
  generalize sigB E M x = sx at *
  generalize sigB E M y = sy at *
  cases sx with
  | true =>
    go_enter Oajg.func83, Oajg.ntmps83
    go_wp2_with fail
    refine Calls.mono (HX.out _) ?_
    rintro _ w0 ⟨rfl, hb⟩
    replace hS := sf_next hS hb
    clear hb
    go_wp2_with fail
    go_ret
    exact ⟨rfl, hS.2.2.2⟩
  | false =>
    cases sy
    all_goals
      go_enter Oajg.func83, Oajg.ntmps83
      go_wp2_with fail
      refine Calls.mono (HX.out _) ?_
      rintro _ w0 ⟨rfl, hb⟩
      replace hS := sf_next hS hb
      clear hb
      go_wp2_with fail
      refine Calls.mono (HY.out _) ?_
      rintro _ w1 ⟨rfl, hb⟩
      replace hS := sf_next hS hb
      clear hb
      go_wp2_with fail
      go_ret
      exact ⟨rfl, hS.2.2.2⟩

set_option maxRecDepth 100000 in
set_option maxHeartbeats 2000000 in
theorem heardX_ok (E M : Nat) (h : FOk E M) (x y : Nat) (hx : x < 18446744073709551616) (hy : y < 18446744073709551616) (w : World) :
    Calls Oajg.prog 65 #[.agg #[.int .u8 (E : Int), .int .u8 (M : Int)], .int .u64 (x : Int), .int .u64 (y : Int)] w fun e w' => e = .returned (.int .u8 (if sigB E M x || sigB E M y then 1 else 0)) ∧ Below w.heap.size w w' := by
  have HX : Hid (∀ w, Calls Oajg.prog 117 #[.agg #[.int .u8 (E : Int), .int .u8 (M : Int)], .int .u64 (x : Int)] w fun e w' => e = .returned (.bool (sigB E M x)) ∧ Below w.heap.size w w') := signals_ok E M h x hx
  have HY : Hid (∀ w, Calls Oajg.prog 117 #[.agg #[.int .u8 (E : Int), .int .u8 (M : Int)], .int .u64 (y : Int)] w fun e w' => e = .returned (.bool (sigB E M y)) ∧ Below w.heap.size w w') := signals_ok E M h y hy
  have hS := sf_box w E M
  generalize sigB E M x = sx at *
  generalize sigB E M y = sy at *
  cases sx with
  | true =>
    go_enter Oajg.func65, Oajg.ntmps65
    go_wp2_with fail
    refine Calls.mono (HX.out _) ?_
    rintro _ w0 ⟨rfl, hb⟩
    replace hS := sf_next hS hb
    clear hb
    go_wp2_with fail
    go_ret
    exact ⟨rfl, hS.2.2.2⟩
  | false =>
    cases sy
    all_goals
      go_enter Oajg.func65, Oajg.ntmps65
      go_wp2_with fail
      refine Calls.mono (HX.out _) ?_
      rintro _ w0 ⟨rfl, hb⟩
      replace hS := sf_next hS hb
      clear hb
      go_wp2_with fail
      refine Calls.mono (HY.out _) ?_
      rintro _ w1 ⟨rfl, hb⟩
      replace hS := sf_next hS hb
      clear hb
      go_wp2_with fail
      go_ret
      exact ⟨rfl, hS.2.2.2⟩

set_option maxRecDepth 100000 in
set_option maxHeartbeats 2000000 in
theorem unpack_not (E M : Nat) (h : okB E M = false) (x : Nat) (w : World) :
    Calls Oajg.prog 74 #[.agg #[.int .u8 (E : Int), .int .u8 (M : Int)], .int .u64 (x : Int)] w fun e w' => e = .returned (.agg #[.bool false, .int .i8 0, .int .i16 0, .int .u64 0]) ∧ Below w.heap.size w w' := by
  have HO : Hid (∀ w, Calls Oajg.prog 17 #[.agg #[.int .u8 (E : Int), .int .u8 (M : Int)]] w fun e w' => e = .returned (.bool false) ∧ Below w.heap.size w w') := ok_not h
  have hS := sf_next (sf_box w E M) (boxP (w.alloc (.cells #[.int .u8 (E : Int), .int .u8 (M : Int)] 23)))
  have hR := rb_made (w.alloc (.cells #[.int .u8 (E : Int), .int .u8 (M : Int)] 23)) (m := w.heap.size + 1) (by simp)
  go_enter Oajg.func74, Oajg.ntmps74
  go_wp2_with fail
  refine Calls.mono (HO.out _) ?_
  rintro _ w0 ⟨rfl, hb⟩
  replace hS := sf_next hS hb
  replace hR := rb_next hR hb
  clear hb
  go_wp2_with fail
  refine bodyPost_ret (v := .agg #[.bool false, .int .i8 0, .int .i16 0, .int .u64 0]) (by simp [results, Oajg.results74, go_sem, hR]) rfl ⟨rfl, ?_⟩
  exact (sf_store4 hS (by omega)).2.2.2

end Go.Proofs.Ygcoaj
