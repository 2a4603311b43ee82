/-
  WALKS: package wide: Mul64, Cmp, Shl, Shr.
-/
import Derived.Test.YgcoajSf1
set_option linter.unusedVariables false
set_option linter.unusedSimpArgs false
namespace Go.Proofs.Ygcoaj
open Go.RowKit

/-- hi and lo as one number -/
def w128 (hi lo : Nat) : Nat := hi * 18446744073709551616 + lo
theorem w128_hi {hi lo : Nat} (h : lo < 18446744073709551616) : w128 hi lo / 18446744073709551616 = hi := by unfold w128; omega
theorem w128_lo {hi lo : Nat} (h : lo < 18446744073709551616) : w128 hi lo % 18446744073709551616 = lo := by unfold w128; omega

theorem mul_parts (a1 a0 b1 b0 : Nat) : (a1 * 4294967296 + a0) * (b1 * 4294967296 + b0) / 18446744073709551616 =
    a1 * b1 + (a1 * b0 + a0 * b0 / 4294967296) / 4294967296 + (a0 * b1 + (a1 * b0 + a0 * b0 / 4294967296) % 4294967296) / 4294967296 := by
  have e : (a1 * 4294967296 + a0) * (b1 * 4294967296 + b0) = 18446744073709551616 * (a1 * b1) + ((a1 * b0 + a0 * b1) * 4294967296 + a0 * b0) := by grind
  rw [e, Nat.mul_add_div (by decide)]
  generalize a1 * b1 = p
  generalize a1 * b0 = q
  generalize a0 * b1 = r
  generalize a0 * b0 = s
  omega

set_option maxRecDepth 100000 in
set_option maxHeartbeats 2000000 in
theorem mul64_ok (a b : Nat) (ha : a < 18446744073709551616) (hb : b < 18446744073709551616) (w : World) :
    Calls Oajg.prog 184 #[.int .u64 (a : Int), .int .u64 (b : Int)] w fun e w' => e = .returned (.agg #[.int .u64 ((a * b / 18446744073709551616 : Nat) : Int), .int .u64 ((a * b % 18446744073709551616 : Nat) : Int)]) ∧ Below w.heap.size w w' := by
  have hR := bx2_made w (m := w.heap.size) (.int .u64 0) (.int .u64 0) 88 rfl
  have HB0 : Hid (Below w.heap.size w (w.alloc (.cells #[.int .u64 0, .int .u64 0] 88))) := (Below.refl _ _).alloc (Nat.le_refl _) _
  obtain ⟨a1, ha1⟩ : ∃ a1, a1 = a / 4294967296 := ⟨_, rfl⟩
  obtain ⟨a0, ha0⟩ : ∃ a0, a0 = a % 4294967296 := ⟨_, rfl⟩
  obtain ⟨b1, hb1⟩ : ∃ b1, b1 = b / 4294967296 := ⟨_, rfl⟩
  obtain ⟨b0, hb0⟩ : ∃ b0, b0 = b % 4294967296 := ⟨_, rfl⟩
  have ka1 : (a : Int) / 4294967296 = (a1 : Int) := by omega
  have kb1 : (b : Int) / 4294967296 = (b1 : Int) := by omega
  have ka0 : bits .and .u64 (a : Int) 4294967295 = (a0 : Int) := by
    have e : bits .and .u64 (a : Int) ((4294967295 : Nat) : Int) = ((a &&& 4294967295 : Nat) : Int) := u64_and_nat _ _ ha (by decide)
    rw [show (4294967295 : Nat) = 2 ^ 32 - 1 from rfl, Nat.and_two_pow_sub_one_eq_mod] at e
    rw [ha0]; exact e
  have kb0 : bits .and .u64 (b : Int) 4294967295 = (b0 : Int) := by
    have e : bits .and .u64 (b : Int) ((4294967295 : Nat) : Int) = ((b &&& 4294967295 : Nat) : Int) := u64_and_nat _ _ hb (by decide)
    rw [show (4294967295 : Nat) = 2 ^ 32 - 1 from rfl, Nat.and_two_pow_sub_one_eq_mod] at e
    rw [hb0]; exact e
  have q1 : a1 < 4294967296 := by omega
  have q2 : a0 < 4294967296 := by omega
  have q3 : b1 < 4294967296 := by omega
  have q4 : b0 < 4294967296 := by omega
  have hab : a * b = (a1 * 4294967296 + a0) * (b1 * 4294967296 + b0) := by congr 1 <;> omega
  have hmp := mul_parts a1 a0 b1 b0
  rw [← hab] at hmp
  obtain ⟨m10, h10⟩ : ∃ m, m = a1 * b0 := ⟨_, rfl⟩
  obtain ⟨m00, h00⟩ : ∃ m, m = a0 * b0 := ⟨_, rfl⟩
  obtain ⟨m01, h01⟩ : ∃ m, m = a0 * b1 := ⟨_, rfl⟩
  obtain ⟨m11, h11⟩ : ∃ m, m = a1 * b1 := ⟨_, rfl⟩
  obtain ⟨mid, hmid⟩ : ∃ m, m = m10 + m00 / 4294967296 := ⟨_, rfl⟩
  obtain ⟨mid2, hmid2⟩ : ∃ m, m = m01 + mid % 4294967296 := ⟨_, rfl⟩
  obtain ⟨R1, hR1⟩ : ∃ R, R = a * b / 18446744073709551616 := ⟨_, rfl⟩
  obtain ⟨R0, hR0⟩ : ∃ R, R = a * b % 18446744073709551616 := ⟨_, rfl⟩
  rw [← h10, ← h00, ← h01, ← h11, ← hmid, ← hmid2, ← hR1] at hmp
  have l10 : a1 * b0 ≤ 4294967295 * 4294967295 := Nat.mul_le_mul (by omega) (by omega)
  have l00 : a0 * b0 ≤ 4294967295 * 4294967295 := Nat.mul_le_mul (by omega) (by omega)
  have l01 : a0 * b1 ≤ 4294967295 * 4294967295 := Nat.mul_le_mul (by omega) (by omega)
  have l11 : a1 * b1 ≤ 4294967295 * 4294967295 := Nat.mul_le_mul (by omega) (by omega)
  rw [← h10] at l10
  rw [← h00] at l00
  rw [← h01] at l01
  rw [← h11] at l11
  have k10 : (a1 : Int) * (b0 : Int) = (m10 : Int) := by rw [h10]; push_cast; rfl
  have k00 : (a0 : Int) * (b0 : Int) = (m00 : Int) := by rw [h00]; push_cast; rfl
  have k01 : (a0 : Int) * (b1 : Int) = (m01 : Int) := by rw [h01]; push_cast; rfl
  have k11 : (a1 : Int) * (b1 : Int) = (m11 : Int) := by rw [h11]; push_cast; rfl
  have hR164 : R1 < 18446744073709551616 := by rw [hR1]; exact Nat.div_lt_of_lt_mul (Nat.mul_lt_mul_of_lt_of_lt ha hb)
  have kmid : (m10 : Int) + (m00 : Int) / 4294967296 = (mid : Int) := by omega
  have km2 : bits .and .u64 (mid : Int) 4294967295 = ((mid % 4294967296 : Nat) : Int) := by
    have e : bits .and .u64 (mid : Int) ((4294967295 : Nat) : Int) = ((mid &&& 4294967295 : Nat) : Int) := u64_and_nat _ _ (by omega) (by decide)
    rw [show (4294967295 : Nat) = 2 ^ 32 - 1 from rfl, Nat.and_two_pow_sub_one_eq_mod] at e
    exact e
  have kmid2 : (m01 : Int) + ((mid % 4294967296 : Nat) : Int) = (mid2 : Int) := by omega
  have kR1 : (m11 : Int) + (mid : Int) / 4294967296 + (mid2 : Int) / 4294967296 = (R1 : Int) := by omega
  have kR0 : IntKind.u64.wrap ((a : Int) * (b : Int)) = (R0 : Int) := by
    have e : ((a * b : Nat) : Int) = (a : Int) * (b : Int) := by push_cast; rfl
    rw [← e, IntKind.wrap_u64, hR0]; omega
  have lm : mid < 18446744073709551616 := by omega
  have lm2 : mid2 < 18446744073709551616 := by omega
  rw [← hR1, ← hR0]
  obtain ⟨ml, hml⟩ : ∃ ml, ml = mid % 4294967296 := ⟨_, rfl⟩
  rw [← hml] at km2 kmid2
  clear h10 h00 h01 h11 hmid hmid2 hR1 hR0 hab hmp ha1 ha0 hb1 hb0 hml
  go_enter Oajg.func184, Oajg.ntmps184
  go_wp2_with fail
  refine bodyPost_ret (v := .agg #[.int .u64 (R1 : Int), .int .u64 (R0 : Int)]) (by simp [results, Oajg.results184, go_sem, hR]) rfl ⟨rfl, ?_⟩
  exact (Below.refl _ _).alloc (Nat.le_refl _) _

/-! ### Cmp -/
theorem w128_lt {ah al bh bl : Nat} (h1 : al < 18446744073709551616) (h2 : bl < 18446744073709551616) : (ah < bh ∨ (ah = bh ∧ al < bl)) ↔ w128 ah al < w128 bh bl := by unfold w128; omega
theorem w128_eq {ah al bh bl : Nat} (h1 : al < 18446744073709551616) (h2 : bl < 18446744073709551616) : (ah = bh ∧ al = bl) ↔ w128 ah al = w128 bh bl := by unfold w128; omega

set_option maxRecDepth 100000 in
set_option maxHeartbeats 2000000 in
theorem wcmp_ok (ah al bh bl : Nat) (h1 : ah < 18446744073709551616) (h2 : al < 18446744073709551616) (h3 : bh < 18446744073709551616) (h4 : bl < 18446744073709551616) (w : World) :
    Calls Oajg.prog 188 #[.agg #[.int .u64 (ah : Int), .int .u64 (al : Int)], .agg #[.int .u64 (bh : Int), .int .u64 (bl : Int)]] w fun e w' => e = .returned (.int .i8 (cmpZ (w128 ah al) (w128 bh bl))) ∧ Below w.heap.size w w' := by
  have HB : Hid (Below w.heap.size w ((w.alloc (.cells #[.int .u64 (ah : Int), .int .u64 (al : Int)] 88)).alloc (.cells #[.int .u64 (bh : Int), .int .u64 (bl : Int)] 88))) := ((Below.refl _ _).alloc (Nat.le_refl _) _).alloc (by simp) _
  by_cases hlt : ah < bh
  · have HR : Hid (cmpZ (w128 ah al) (w128 bh bl) = -1) := cmpZ_lt ((w128_lt h2 h4).1 (Or.inl hlt))
    rw [HR.out]
    have j1 : (ah : Int) < (bh : Int) := by omega
    clear hlt HR
    go_enter Oajg.func188, Oajg.ntmps188
    go_wp2_with fail
    go_ret
    exact ⟨rfl, HB.out⟩
  have j1 : decide ((ah : Int) < (bh : Int)) = false := by rw [decide_eq_false_iff_not]; omega
  have j1n : bh ≤ ah := by omega
  by_cases heq : ah = bh
  · subst heq
    by_cases hl : al < bl
    · have HR : Hid (cmpZ (w128 ah al) (w128 ah bl) = -1) := cmpZ_lt ((w128_lt h2 h4).1 (Or.inr ⟨rfl, hl⟩))
      rw [HR.out]
      have j2 : (al : Int) < (bl : Int) := by omega
      clear hlt hl HR j1 j1n
      go_enter Oajg.func188, Oajg.ntmps188
      go_wp2_with fail
      go_ret
      exact ⟨rfl, HB.out⟩
    · have j2 : decide ((al : Int) < (bl : Int)) = false := by rw [decide_eq_false_iff_not]; omega
      have j2n : bl ≤ al := by omega
      by_cases he : al = bl
      · subst he
        have HR : Hid (cmpZ (w128 ah al) (w128 ah al) = 0) := by show _ = _; unfold cmpZ; rw [if_neg (by omega), if_pos rfl]
        rw [HR.out]
        clear hlt hl HR j1 j1n j2 j2n
        go_enter Oajg.func188, Oajg.ntmps188
        go_wp2_with fail
        go_ret
        exact ⟨rfl, HB.out⟩
      · have HR : Hid (cmpZ (w128 ah al) (w128 ah bl) = 1) := cmpZ_gt ((w128_lt h4 h2).1 (Or.inr ⟨rfl, by omega⟩))
        rw [HR.out]
        have j3 : ((al : Int) == (bl : Int)) = false := by simp; omega
        have j4 : ¬ al = bl := he
        clear hlt hl HR j1 j1n he
        go_enter Oajg.func188, Oajg.ntmps188
        go_wp2_with fail
        go_ret
        exact ⟨rfl, HB.out⟩
  · have HR : Hid (cmpZ (w128 ah al) (w128 bh bl) = 1) := cmpZ_gt ((w128_lt h4 h2).1 (Or.inl (by omega)))
    rw [HR.out]
    have j3 : ((ah : Int) == (bh : Int)) = false := by simp; omega
    have j4 : ¬ ah = bh := heq
    clear hlt HR heq
    go_enter Oajg.func188, Oajg.ntmps188
    go_wp2_with fail
    go_ret
    exact ⟨rfl, HB.out⟩

/-! ### Shl -/
theorem shl_hi {ah al k : Nat} (hk : k ≤ 64) : (w128 ah al) * 2 ^ k / 18446744073709551616 = ah * 2 ^ k + al / 2 ^ (64 - k) := by
  have e64 : (18446744073709551616 : Nat) = 2 ^ k * 2 ^ (64 - k) := by rw [← Nat.pow_add, show k + (64 - k) = 64 by omega]
  have e1 : w128 ah al * 2 ^ k = 18446744073709551616 * (ah * 2 ^ k) + al * 2 ^ k := by unfold w128; grind
  rw [e1, Nat.mul_add_div (by decide)]
  congr 1
  rw [e64, Nat.mul_comm al, Nat.mul_div_mul_left _ _ (pp k)]
theorem shl_lo {ah al k : Nat} : (w128 ah al) * 2 ^ k % 18446744073709551616 = al * 2 ^ k % 18446744073709551616 := by
  have e1 : w128 ah al * 2 ^ k = 18446744073709551616 * (ah * 2 ^ k) + al * 2 ^ k := by unfold w128; grind
  rw [e1, Nat.mul_add_mod]

set_option maxRecDepth 100000 in
set_option maxHeartbeats 2000000 in
theorem wshl_ok (ah al k : Nat) (h1 : ah < 18446744073709551616) (h2 : al < 18446744073709551616) (hk : k < 64) (hno : w128 ah al * 2 ^ k < 18446744073709551616 * 18446744073709551616) (w : World) :
    Calls Oajg.prog 187 #[.agg #[.int .u64 (ah : Int), .int .u64 (al : Int)], .int .u8 (k : Int)] w fun e w' => e = .returned (.agg #[.int .u64 ((w128 ah al * 2 ^ k / 18446744073709551616 : Nat) : Int), .int .u64 ((w128 ah al * 2 ^ k % 18446744073709551616 : Nat) : Int)]) ∧ Below w.heap.size w w' := by
  have hhi := shl_hi (ah := ah) (al := al) (k := k) (by omega)
  have hlo := shl_lo (ah := ah) (al := al) (k := k)
  obtain ⟨RH, hRH⟩ : ∃ R, R = w128 ah al * 2 ^ k / 18446744073709551616 := ⟨_, rfl⟩
  obtain ⟨RL, hRL⟩ : ∃ R, R = w128 ah al * 2 ^ k % 18446744073709551616 := ⟨_, rfl⟩
  have hRH64 : RH < 18446744073709551616 := by rw [hRH]; exact Nat.div_lt_of_lt_mul hno
  rw [← hRH] at hhi
  rw [← hRL] at hlo
  obtain ⟨X, hX⟩ : ∃ X, X = ah * 2 ^ k := ⟨_, rfl⟩
  obtain ⟨Y, hY⟩ : ∃ Y, Y = al / 2 ^ (64 - k) := ⟨_, rfl⟩
  rw [← hX, ← hY] at hhi
  have hYk : Y < 2 ^ k := by
    rw [hY]
    refine Nat.div_lt_of_lt_mul ?_
    rw [← Nat.pow_add, show 64 - k + k = 64 by omega]
    exact h2
  have hXm : X % 2 ^ k = 0 := by rw [hX]; exact Nat.mul_mod_left _ _
  have kX : IntKind.u64.wrap ((ah : Int) * 2 ^ k) = (X : Int) := wrap64' (by rw [hX]; push_cast; rfl) (by omega)
  obtain ⟨m, hm⟩ : ∃ m, m = 64 - k := ⟨_, rfl⟩
  have km : (64 : Int) - (k : Int) = (m : Int) := by omega
  have hm64 : m ≤ 64 := by omega
  have kY : (al : Int) / 2 ^ m = (Y : Int) := by rw [hY, ← hm]; push_cast; rfl
  have kO : bits .or .u64 (X : Int) (Y : Int) = (RH : Int) := by
    have e : bits .or .u64 (X : Int) (Y : Int) = ((X ||| Y : Nat) : Int) := u64_or_nat _ _ (by omega) (by omega)
    rw [nat_join k X Y hXm hYk, ← hhi] at e
    exact e
  have kL : IntKind.u64.wrap ((al : Int) * 2 ^ k) = (RL : Int) := by
    have e : ((al * 2 ^ k : Nat) : Int) = (al : Int) * 2 ^ k := by push_cast; rfl
    rw [← e, IntKind.wrap_u64, hlo]; omega
  have hR := bx2_made (w.alloc (.cells #[.int .u64 (ah : Int), .int .u64 (al : Int)] 88)) (m := w.heap.size + 1) (.int .u64 0) (.int .u64 0) 88 (by simp)
  rw [← hRH, ← hRL]
  clear hhi hlo hRH hRL hX hY hYk hXm hno hm
  go_enter Oajg.func187, Oajg.ntmps187
  go_wp2_with fail
  refine bodyPost_ret (v := .agg #[.int .u64 (RH : Int), .int .u64 (RL : Int)]) (by simp [results, Oajg.results187, go_sem, hR]) rfl ⟨rfl, ?_⟩
  first
    | exact ((Below.refl _ _).alloc (Nat.le_refl _) _).alloc (by simp) _
    | exact ((((Below.refl _ _).alloc (Nat.le_refl _) _).alloc (by simp) _).setCell (Nat.le_succ _) _).setCell (Nat.le_succ _) _

end Go.Proofs.Ygcoaj
