/-
  WALKS: wide.Shr (152), soft.top (151).
-/
import Derived.Test.YgcoajWd4
import Derived.Test.YgcoajLb
set_option linter.unusedVariables false
set_option linter.unusedSimpArgs false
namespace Go.Proofs.Ygcoaj
open Go.RowKit

theorem shr_sum {ah al k : Nat} (hk : k ≤ 64) : w128 ah al / 2 ^ k = 2 ^ (64 - k) * ah + al / 2 ^ k := by
  have e1 : w128 ah al = 2 ^ k * (2 ^ (64 - k) * ah) + al := by
    unfold w128
    rw [← Nat.mul_assoc, ← Nat.pow_add, show k + (64 - k) = 64 by omega]
    omega
  rw [e1, Nat.mul_add_div (pp k)]
theorem shr_hi {ah al k : Nat} (h2 : al < 18446744073709551616) : w128 ah al / 2 ^ k / 18446744073709551616 = ah / 2 ^ k := by
  rw [Nat.div_div_eq_div_mul, Nat.mul_comm, ← Nat.div_div_eq_div_mul, w128_hi h2]
theorem shr_lo {ah al k : Nat} (h2 : al < 18446744073709551616) (hk : k ≤ 64) : w128 ah al / 2 ^ k % 18446744073709551616 = 2 ^ (64 - k) * ah % 18446744073709551616 + al / 2 ^ k := by
  rw [shr_sum hk]
  have e64 : (18446744073709551616 : Nat) = 2 ^ (64 - k) * 2 ^ k := by rw [← Nat.pow_add, show 64 - k + k = 64 by omega]
  have hY : al / 2 ^ k < 2 ^ (64 - k) := by
    refine Nat.div_lt_of_lt_mul ?_
    rw [Nat.mul_comm, ← e64]; exact h2
  rw [e64, Nat.mul_mod_mul_left]
  rw [← Nat.mod_add_div ah (2 ^ k), Nat.mul_add, ← Nat.mul_assoc, Nat.add_right_comm, Nat.add_mul_mod_self_left, Nat.add_mul_mod_self_left, Nat.mod_mod]
  refine Nat.mod_eq_of_lt ?_
  have hm := Nat.mod_lt ah (pp k)
  have h3 : 2 ^ (64 - k) * (ah % 2 ^ k + 1) ≤ 2 ^ (64 - k) * 2 ^ k := Nat.mul_le_mul_left _ hm
  rw [Nat.mul_add, Nat.mul_one] at h3
  omega

set_option maxRecDepth 100000 in
set_option maxHeartbeats 2000000 in
theorem wshr_ok (ah al k : Nat) (h1 : ah < 18446744073709551616) (h2 : al < 18446744073709551616) (hk : k < 64) (w : World) :
    Calls Oajg.prog 152 #[.agg #[.int .u64 (ah : Int), .int .u64 (al : Int)], .int .u8 (k : Int)] w fun e w' => e = .returned (.agg #[.int .u64 ((w128 ah al / 2 ^ k / 18446744073709551616 : Nat) : Int), .int .u64 ((w128 ah al / 2 ^ k % 18446744073709551616 : Nat) : Int)]) ∧ Below w.heap.size w w' := by
  have hhi := shr_hi (ah := ah) (al := al) (k := k) h2
  have hlo := shr_lo (ah := ah) (al := al) (k := k) h2 (by omega)
  obtain ⟨RH, hRH⟩ : ∃ R, R = w128 ah al / 2 ^ k / 18446744073709551616 := ⟨_, rfl⟩
  obtain ⟨RL, hRL⟩ : ∃ R, R = w128 ah al / 2 ^ k % 18446744073709551616 := ⟨_, rfl⟩
  rw [← hRH] at hhi
  rw [← hRL] at hlo
  obtain ⟨m, hm⟩ : ∃ m, m = 64 - k := ⟨_, rfl⟩
  rw [← hm] at hlo
  have km : (64 : Int) - (k : Int) = (m : Int) := by omega
  have hm64 : m ≤ 64 := by omega
  obtain ⟨X, hX⟩ : ∃ X, X = 2 ^ m * ah % 18446744073709551616 := ⟨_, rfl⟩
  obtain ⟨Y, hY⟩ : ∃ Y, Y = al / 2 ^ k := ⟨_, rfl⟩
  rw [← hX, ← hY] at hlo
  have e64 : (18446744073709551616 : Nat) = 2 ^ m * 2 ^ k := by rw [← Nat.pow_add, show m + k = 64 by omega]
  have hYm : Y < 2 ^ m := by
    rw [hY]
    refine Nat.div_lt_of_lt_mul ?_
    rw [Nat.mul_comm, ← e64]; exact h2
  have hXm : X % 2 ^ m = 0 := by rw [hX, e64, Nat.mul_mod_mul_left]; exact Nat.mul_mod_right _ _
  have hX64 : X < 18446744073709551616 := by rw [hX]; exact Nat.mod_lt _ (by decide)
  have kX : IntKind.u64.wrap ((ah : Int) * 2 ^ m) = (X : Int) := by
    have e : ((ah * 2 ^ m : Nat) : Int) = (ah : Int) * 2 ^ m := by push_cast; rfl
    rw [← e, IntKind.wrap_u64, hX, Nat.mul_comm]; omega
  have kY : (al : Int) / 2 ^ k = (Y : Int) := by rw [hY]; push_cast; rfl
  have kH : (ah : Int) / 2 ^ k = (RH : Int) := by rw [hhi]; push_cast; rfl
  have kO : bits .or .u64 (Y : Int) (X : Int) = (RL : Int) := by
    have hY64 : Y < 18446744073709551616 := by have : RL < 18446744073709551616 := by rw [hRL]; exact Nat.mod_lt _ (by decide)
                                               omega
    have e : bits .or .u64 (Y : Int) (X : Int) = ((Y ||| X : Nat) : Int) := u64_or_nat _ _ hY64 hX64
    rw [Nat.or_comm, nat_join m X Y hXm hYm, ← hlo] at e
    exact e
  have hR := bx2_made (w.alloc (.cells #[.int .u64 (ah : Int), .int .u64 (al : Int)] 88)) (m := w.heap.size + 1) (.int .u64 0) (.int .u64 0) 88 (by simp)
  rw [← hRH, ← hRL]
  clear hhi hlo hRH hRL hX hY hYm hXm hm e64
  go_enter Oajg.func152, Oajg.ntmps152
  go_wp2_with fail
  refine bodyPost_ret (v := .agg #[.int .u64 (RH : Int), .int .u64 (RL : Int)]) (by simp [results, Oajg.results152, go_sem, hR]) rfl ⟨rfl, ?_⟩
  first
    | exact ((Below.refl _ _).alloc (Nat.le_refl _) _).alloc (by simp) _
    | exact ((((Below.refl _ _).alloc (Nat.le_refl _) _).alloc (by simp) _).setCell (Nat.le_succ _) _).setCell (Nat.le_succ _) _

set_option maxRecDepth 100000 in
set_option maxHeartbeats 2000000 in
theorem top_ok (E M : Nat) (hM : M ≤ 62) (NG : Bool) (C VE : Int) (VM : Nat) (hv : VM * 2 ^ (63 - M) < 18446744073709551616) (he : -20000 < VE) (he2 : VE < 20000) (w : World) :
    Calls Oajg.prog 151 #[.agg #[.int .u8 (E : Int), .int .u8 (M : Int)], .agg #[.bool NG, .int .i8 C, .int .i16 VE, .int .u64 (VM : Int)]] w fun e w' => e = .returned (.tuple #[.int .u64 ((VM * 2 ^ (63 - M) : Nat) : Int), .int .i16 (VE - ((63 - M : Nat) : Int))]) ∧ Below w.heap.size w w' := by
  obtain ⟨k, hk⟩ : ∃ k, k = 63 - M := ⟨_, rfl⟩
  rw [← hk] at hv ⊢
  have hk1 : (63 : Int) - (M : Int) = (k : Int) := by omega
  have hk2 : k ≤ 63 := by omega
  obtain ⟨Y, hY⟩ : ∃ Y, Y = VM * 2 ^ k := ⟨_, rfl⟩
  rw [← hY] at hv ⊢
  have kY : IntKind.u64.wrap ((VM : Int) * 2 ^ k) = (Y : Int) := wrap64' (by rw [hY]; push_cast; rfl) (by omega)
  have kE : IntKind.i16.wrap (VE - (k : Int)) = VE - (k : Int) := by rw [i16_wrap]; omega
  have kE2 : IntKind.i16.wrap (k : Int) = (k : Int) := by rw [i16_wrap]; omega
  have hA := bx2_made w (m := w.heap.size) (.int .u8 (E : Int)) (.int .u8 (M : Int)) 23 rfl
  have hB := bx4_made (w.alloc (.cells #[.int .u8 (E : Int), .int .u8 (M : Int)] 23)) (m := w.heap.size + 1) (.bool NG) (.int .i8 C) (.int .i16 VE) (.int .u64 (VM : Int)) 107 (by simp)
  clear hk hY
  go_enter Oajg.func151, Oajg.ntmps151
  go_wp2_with fail
  go_quiet (fail)
  go_wp2_with fail
  go_ret2
  exact ⟨rfl, by first | exact ((Below.refl _ _).alloc (Nat.le_refl _) _).alloc (by simp) _ | exact below_drewN (((Below.refl _ _).alloc (Nat.le_refl _) _).alloc (by simp) _) _⟩

end Go.Proofs.Ygcoaj
