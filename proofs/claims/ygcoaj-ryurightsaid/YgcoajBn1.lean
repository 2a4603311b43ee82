/-
  WALKS: wide.Shl, wide.Shr at every count, wide.ShrJam, wide.Add, wide.Sub, soft.jam.
-/
import Derived.Test.YgcoajBn0
import Derived.Test.YgcoajSq2
set_option linter.unusedVariables false
set_option linter.unusedSimpArgs false
namespace Go.Proofs.Ygcoaj
open Go.RowKit

theorem hidden {p : Prop} (h : p) : Hid p := h
/-- the two words of A -/
def Wd (hi lo A : Nat) : Prop := hi < 18446744073709551616 ∧ lo < 18446744073709551616 ∧ w128 hi lo = A
theorem wd_split {A : Nat} (h : A < 18446744073709551616 * 18446744073709551616) : Wd (A / 18446744073709551616) (A % 18446744073709551616) A := by
  refine ⟨Nat.div_lt_of_lt_mul h, Nat.mod_lt _ (by decide), ?_⟩
  unfold w128; omega
theorem wd_lt {hi lo A : Nat} (h : Wd hi lo A) : A < 18446744073709551616 * 18446744073709551616 := by
  obtain ⟨h1, h2, h3⟩ := h
  unfold w128 at h3; omega
theorem w128_one {ah al bh bl : Nat} (h2 : al < 18446744073709551616) (h4 : bl < 18446744073709551616) (e : w128 ah al = w128 bh bl) : ah = bh ∧ al = bl := by unfold w128 at e; omega

set_option maxRecDepth 100000 in
set_option maxHeartbeats 2000000 in
theorem wshl_all (ah al k A : Nat) (h : Wd ah al A) (hk : k < 256) (hno : A * 2 ^ k < 18446744073709551616 * 18446744073709551616) (w : World) :
    Calls Oajg.prog 187 #[.agg #[.int .u64 (ah : Int), .int .u64 (al : Int)], .int .u8 (k : Int)] w fun e w' => ∃ hi lo : Nat, Wd hi lo (A * 2 ^ k) ∧ e = .returned (.agg #[.int .u64 (hi : Int), .int .u64 (lo : Int)]) ∧ Below w.heap.size w w' := by
  obtain ⟨h1, h2, rfl⟩ := h
  by_cases h64 : k < 64
  · refine Calls.mono (wshl_ok ah al k h1 h2 h64 hno w) ?_
    rintro e w' ⟨rfl, hb⟩
    exact ⟨_, _, wd_split hno, rfl, hb⟩
  · obtain ⟨m, hm⟩ : ∃ m, k = 64 + m := ⟨k - 64, by omega⟩
    have hX : al * 2 ^ m < 18446744073709551616 ∧ ah = 0 := by
      rw [hm, Nat.pow_add, ← Nat.mul_assoc] at hno
      have hp := pp m
      have h3 : w128 ah al * 2 ^ 64 * 1 ≤ w128 ah al * 2 ^ 64 * 2 ^ m := Nat.mul_le_mul_left _ hp
      have h4 : ah = 0 := by unfold w128 at h3 hno; omega
      subst h4
      refine ⟨?_, rfl⟩
      have h5 : al * 2 ^ m * 18446744073709551616 < 18446744073709551616 * 18446744073709551616 := by
        have : w128 0 al * 2 ^ 64 * 2 ^ m = al * 2 ^ m * 18446744073709551616 := by
          unfold w128; rw [Nat.zero_mul, Nat.zero_add, Nat.mul_right_comm]
        omega
      omega
    obtain ⟨hX, rfl⟩ := hX
    have eA : w128 0 al * 2 ^ k = w128 (al * 2 ^ m) 0 := by
      rw [hm, Nat.pow_add, ← Nat.mul_assoc, Nat.mul_right_comm]
      unfold w128
      simp
    rw [eA]
    obtain ⟨X, hXe⟩ : ∃ X, X = al * 2 ^ m := ⟨_, rfl⟩
    rw [← hXe] at hX ⊢
    have HWD : Hid (Wd X 0 (w128 X 0)) := ⟨hX, by decide, rfl⟩
    have km : (k : Int) - 64 = (m : Int) := by omega
    have hk' : (64 : Int) ≤ (k : Int) := by omega
    have hm192 : m < 192 := by omega
    have kX : IntKind.u64.wrap ((al : Int) * 2 ^ m) = (X : Int) := wrap64' (by rw [hXe]; push_cast; rfl) (by omega)
    have kX3 : IntKind.u64.wrap ((al : Int) * 2 ^ min m 64) = (X : Int) := by
      rcases Nat.le_total m 64 with hc | hc
      · rw [Nat.min_eq_left hc]; exact kX
      · have h5 : al * 2 ^ 64 ≤ al * 2 ^ m := Nat.mul_le_mul_left _ (Nat.pow_le_pow_right (by decide) hc)
        have h6 : al = 0 := by omega
        have h7 : X = 0 := by rw [hXe, h6, Nat.zero_mul]
        rw [h6, h7]; simp [IntKind.wrap_u64]
    have hR := bx2_made (w.alloc (.cells #[.int .u64 0, .int .u64 (al : Int)] 88)) (m := w.heap.size + 1) (.int .u64 0) (.int .u64 0) 88 (by simp)
    clear hno eA hXe hm h64
    go_enter Oajg.func187, Oajg.ntmps187
    go_wp2_with fail
    refine bodyPost_ret (v := .agg #[.int .u64 (X : Int), .int .u64 0]) (by simp [results, Oajg.results187, go_sem, hR, kX3]) rfl ⟨X, 0, HWD.out, rfl, ?_⟩
    first
      | exact ((Below.refl _ _).alloc (Nat.le_refl _) _).alloc (by simp) _
      | exact ((((Below.refl _ _).alloc (Nat.le_refl _) _).alloc (by simp) _).setCell (Nat.le_succ _) _).setCell (Nat.le_succ _) _

set_option maxRecDepth 100000 in
set_option maxHeartbeats 2000000 in
theorem wshr_all (ah al k A : Nat) (h : Wd ah al A) (hk : k < 256) (w : World) :
    Calls Oajg.prog 152 #[.agg #[.int .u64 (ah : Int), .int .u64 (al : Int)], .int .u8 (k : Int)] w fun e w' => ∃ hi lo : Nat, Wd hi lo (A / 2 ^ k) ∧ e = .returned (.agg #[.int .u64 (hi : Int), .int .u64 (lo : Int)]) ∧ Below w.heap.size w w' := by
  have hA := wd_lt h
  obtain ⟨h1, h2, rfl⟩ := h
  by_cases h64 : k < 64
  · refine Calls.mono (wshr_ok ah al k h1 h2 h64 w) ?_
    rintro e w' ⟨rfl, hb⟩
    exact ⟨_, _, wd_split (Nat.lt_of_le_of_lt (Nat.div_le_self _ _) hA), rfl, hb⟩
  · obtain ⟨m, hm⟩ : ∃ m, k = 64 + m := ⟨k - 64, by omega⟩
    have eA : w128 ah al / 2 ^ k = ah / 2 ^ m := by
      rw [hm, Nat.pow_add, ← Nat.div_div_eq_div_mul]
      congr 1
      exact w128_hi h2
    rw [eA]
    obtain ⟨X, hXe⟩ : ∃ X, X = ah / 2 ^ m := ⟨_, rfl⟩
    have hX : X < 18446744073709551616 := by rw [hXe]; exact Nat.lt_of_le_of_lt (Nat.div_le_self _ _) h1
    rw [← hXe]
    have HWD : Hid (Wd 0 X X) := ⟨by decide, hX, by unfold w128; omega⟩
    have km : (k : Int) - 64 = (m : Int) := by omega
    have hk' : (64 : Int) ≤ (k : Int) := by omega
    have hm192 : m < 192 := by omega
    have kX : (ah : Int) / 2 ^ m = (X : Int) := by rw [hXe]; push_cast; rfl
    have kX3 : (ah : Int) / 2 ^ min m 64 = (X : Int) := by
      rcases Nat.le_total m 64 with hc | hc
      · rw [Nat.min_eq_left hc]; exact kX
      · have h5 : 2 ^ 64 ≤ 2 ^ m := Nat.pow_le_pow_right (by decide) hc
        have h7 : X = 0 := by rw [hXe]; exact Nat.div_eq_of_lt (by omega)
        rw [Nat.min_eq_right hc, h7]
        show (ah : Int) / 18446744073709551616 = 0
        omega
    have hR := bx2_made (w.alloc (.cells #[.int .u64 (ah : Int), .int .u64 (al : Int)] 88)) (m := w.heap.size + 1) (.int .u64 0) (.int .u64 0) 88 (by simp)
    clear hA eA hXe hm h64
    go_enter Oajg.func152, Oajg.ntmps152
    go_wp2_with fail
    refine bodyPost_ret (v := .agg #[.int .u64 0, .int .u64 (X : Int)]) (by simp [results, Oajg.results152, go_sem, hR, kX3]) rfl ⟨0, X, HWD.out, rfl, ?_⟩
    first
      | exact ((Below.refl _ _).alloc (Nat.le_refl _) _).alloc (by simp) _
      | exact ((((Below.refl _ _).alloc (Nat.le_refl _) _).alloc (by simp) _).setCell (Nat.le_succ _) _).setCell (Nat.le_succ _) _

set_option maxRecDepth 100000 in
set_option maxHeartbeats 2000000 in
theorem clz_zero (w : World) : Calls Oajg.prog 133 #[.int .u64 0] w fun e w' => e = .returned (.int .u8 64) ∧ w' = w := by
  go_enter Oajg.func133, Oajg.ntmps133
  go_wp2_with fail
  go_ret
  exact ⟨rfl, rfl⟩

theorem tb_next {w W W' : World} {b n m : Nat} {u0 u1 x0 x1 y0 y1 : Value} (h : (W.cell? ⟨b, 0, none⟩ = some u0 ∧ W.cell? ⟨b, 1, none⟩ = some u1 ∧ (∀ o, W.frozen? ⟨b, o, none⟩ = false) ∧ b < W.heap.size) ∧ (W.cell? ⟨n, 0, none⟩ = some x0 ∧ W.cell? ⟨n, 1, none⟩ = some x1 ∧ (∀ o, W.frozen? ⟨n, o, none⟩ = false) ∧ n < W.heap.size) ∧ (W.cell? ⟨m, 0, none⟩ = some y0 ∧ W.cell? ⟨m, 1, none⟩ = some y1 ∧ (∀ o, W.frozen? ⟨m, o, none⟩ = false) ∧ m < W.heap.size) ∧ Below w.heap.size w W) (hb : Below W.heap.size W W') : (W'.cell? ⟨b, 0, none⟩ = some u0 ∧ W'.cell? ⟨b, 1, none⟩ = some u1 ∧ (∀ o, W'.frozen? ⟨b, o, none⟩ = false) ∧ b < W'.heap.size) ∧ (W'.cell? ⟨n, 0, none⟩ = some x0 ∧ W'.cell? ⟨n, 1, none⟩ = some x1 ∧ (∀ o, W'.frozen? ⟨n, o, none⟩ = false) ∧ n < W'.heap.size) ∧ (W'.cell? ⟨m, 0, none⟩ = some y0 ∧ W'.cell? ⟨m, 1, none⟩ = some y1 ∧ (∀ o, W'.frozen? ⟨m, o, none⟩ = false) ∧ m < W'.heap.size) ∧ Below w.heap.size w W' := ⟨bx2_next h.1 hb, bx2_next h.2.1 hb, bx2_next h.2.2.1 hb, below_then h.2.2.2 hb⟩
theorem tb_drew {w W : World} {b n m : Nat} {u0 u1 x0 x1 y0 y1 : Value} (h : (W.cell? ⟨b, 0, none⟩ = some u0 ∧ W.cell? ⟨b, 1, none⟩ = some u1 ∧ (∀ o, W.frozen? ⟨b, o, none⟩ = false) ∧ b < W.heap.size) ∧ (W.cell? ⟨n, 0, none⟩ = some x0 ∧ W.cell? ⟨n, 1, none⟩ = some x1 ∧ (∀ o, W.frozen? ⟨n, o, none⟩ = false) ∧ n < W.heap.size) ∧ (W.cell? ⟨m, 0, none⟩ = some y0 ∧ W.cell? ⟨m, 1, none⟩ = some y1 ∧ (∀ o, W.frozen? ⟨m, o, none⟩ = false) ∧ m < W.heap.size) ∧ Below w.heap.size w W) : (W.drew.cell? ⟨b, 0, none⟩ = some u0 ∧ W.drew.cell? ⟨b, 1, none⟩ = some u1 ∧ (∀ o, W.drew.frozen? ⟨b, o, none⟩ = false) ∧ b < W.drew.heap.size) ∧ (W.drew.cell? ⟨n, 0, none⟩ = some x0 ∧ W.drew.cell? ⟨n, 1, none⟩ = some x1 ∧ (∀ o, W.drew.frozen? ⟨n, o, none⟩ = false) ∧ n < W.drew.heap.size) ∧ (W.drew.cell? ⟨m, 0, none⟩ = some y0 ∧ W.drew.cell? ⟨m, 1, none⟩ = some y1 ∧ (∀ o, W.drew.frozen? ⟨m, o, none⟩ = false) ∧ m < W.drew.heap.size) ∧ Below w.heap.size w W.drew := ⟨bx2_drew h.1, bx2_drew h.2.1, bx2_drew h.2.2.1, h.2.2.2.drew⟩

theorem jam_words {qh ql A P : Nat} (h : Wd qh ql (A / P)) (h0 : A % P ≠ 0) : Wd qh (ql + (1 - ql % 2)) (jamQ A P) := by
  obtain ⟨h1, h2, h3⟩ := h
  refine ⟨h1, by omega, ?_⟩
  unfold jamQ
  rw [if_neg h0, ← h3]
  unfold w128
  omega
theorem jam_exact {qh ql A P : Nat} (h : Wd qh ql (A / P)) (h0 : A % P = 0) : Wd qh ql (jamQ A P) := by
  unfold jamQ; rw [if_pos h0]; exact h

set_option maxRecDepth 100000 in
set_option maxHeartbeats 4000000 in
theorem shrJam_ok (ah al k A : Nat) (h : Wd ah al A) (hk : k < 256) (w : World) :
    Calls Oajg.prog 209 #[.agg #[.int .u64 (ah : Int), .int .u64 (al : Int)], .int .u8 (k : Int)] w fun e w' => ∃ hi lo : Nat, Wd hi lo (jamQ A (2 ^ k)) ∧ e = .returned (.agg #[.int .u64 (hi : Int), .int .u64 (lo : Int)]) ∧ Below w.heap.size w w' := by
  have HA : Hid (Wd ah al A) := h
  have HS : Hid (∀ w, Calls Oajg.prog 152 #[.agg #[.int .u64 (ah : Int), .int .u64 (al : Int)], .int .u8 (k : Int)] w fun e w' => ∃ hi lo : Nat, Wd hi lo (A / 2 ^ k) ∧ e = .returned (.agg #[.int .u64 (hi : Int), .int .u64 (lo : Int)]) ∧ Below w.heap.size w w') := wshr_all ah al k A h hk
  have hB0 : Below w.heap.size w ((w.alloc (.cells #[.int .u64 (ah : Int), .int .u64 (al : Int)] 88)).alloc (.cells #[.int .u64 (0 : Int), .int .u64 (0 : Int)] 88)) := ((Below.refl _ _).alloc (Nat.le_refl _) _).alloc (by simp) _
  have hR1 := bx2_alloc (bx2_made w (m := w.heap.size) (.int .u64 (ah : Int)) (.int .u64 (al : Int)) 88 rfl) (.cells #[.int .u64 (0 : Int), .int .u64 (0 : Int)] 88)
  have hR2 := bx2_made (w.alloc (.cells #[.int .u64 (ah : Int), .int .u64 (al : Int)] 88)) (m := w.heap.size + 1) (.int .u64 0) (.int .u64 0) 88 (by simp)
  replace hB0 := hidden hB0
  clear h
  go_enter Oajg.func209, Oajg.ntmps209
  go_wp2_with fail
  refine Calls.mono (HS.out _) ?_
  rintro _ w1 ⟨qh, ql, hq, rfl, hb⟩
  replace hR1 := bx2_next hR1 hb
  replace hR2 := bx2_next hR2 hb
  have hB1 := below_then hB0.out hb
  have HQ : Hid (Wd qh ql (A / 2 ^ k)) := hq
  have hs1 : Hid (w.heap.size + 1 < w1.heap.size) := hR2.2.2.2
  have hG : ((w1.alloc (.cells #[.int .u64 (qh : Int), .int .u64 (ql : Int)] 88)).cell? ⟨w.heap.size, 0, none⟩ = some (.int .u64 (ah : Int)) ∧ (w1.alloc (.cells #[.int .u64 (qh : Int), .int .u64 (ql : Int)] 88)).cell? ⟨w.heap.size, 1, none⟩ = some (.int .u64 (al : Int)) ∧ (∀ o, (w1.alloc (.cells #[.int .u64 (qh : Int), .int .u64 (ql : Int)] 88)).frozen? ⟨w.heap.size, o, none⟩ = false) ∧ w.heap.size < (w1.alloc (.cells #[.int .u64 (qh : Int), .int .u64 (ql : Int)] 88)).heap.size) ∧ ((w1.alloc (.cells #[.int .u64 (qh : Int), .int .u64 (ql : Int)] 88)).cell? ⟨(w.heap.size + 1), 0, none⟩ = some (.int .u64 0) ∧ (w1.alloc (.cells #[.int .u64 (qh : Int), .int .u64 (ql : Int)] 88)).cell? ⟨(w.heap.size + 1), 1, none⟩ = some (.int .u64 0) ∧ (∀ o, (w1.alloc (.cells #[.int .u64 (qh : Int), .int .u64 (ql : Int)] 88)).frozen? ⟨(w.heap.size + 1), o, none⟩ = false) ∧ (w.heap.size + 1) < (w1.alloc (.cells #[.int .u64 (qh : Int), .int .u64 (ql : Int)] 88)).heap.size) ∧ ((w1.alloc (.cells #[.int .u64 (qh : Int), .int .u64 (ql : Int)] 88)).cell? ⟨w1.heap.size, 0, none⟩ = some (.int .u64 (qh : Int)) ∧ (w1.alloc (.cells #[.int .u64 (qh : Int), .int .u64 (ql : Int)] 88)).cell? ⟨w1.heap.size, 1, none⟩ = some (.int .u64 (ql : Int)) ∧ (∀ o, (w1.alloc (.cells #[.int .u64 (qh : Int), .int .u64 (ql : Int)] 88)).frozen? ⟨w1.heap.size, o, none⟩ = false) ∧ w1.heap.size < (w1.alloc (.cells #[.int .u64 (qh : Int), .int .u64 (ql : Int)] 88)).heap.size) ∧ Below w.heap.size w (w1.alloc (.cells #[.int .u64 (qh : Int), .int .u64 (ql : Int)] 88)) := ⟨bx2_alloc hR1 _, bx2_alloc hR2 _, bx2_made w1 (m := w1.heap.size) _ _ 88 rfl, hB1.alloc hB1.size _⟩
  clear hb hR1 hR2 hB0 hB1 hq HS
  have hle : A / 2 ^ k * 2 ^ k ≤ A := Nat.div_mul_le_self _ _
  have hAlt := wd_lt HA.out
  have HL0 : ∀ w, Calls Oajg.prog 187 #[.agg #[.int .u64 (qh : Int), .int .u64 (ql : Int)], .int .u8 (k : Int)] w fun e w' => ∃ hi lo : Nat, Wd hi lo (A / 2 ^ k * 2 ^ k) ∧ e = .returned (.agg #[.int .u64 (hi : Int), .int .u64 (lo : Int)]) ∧ Below w.heap.size w w' := wshl_all qh ql k (A / 2 ^ k) HQ.out hk (by omega)
  by_cases h0 : A % 2 ^ k = 0
  · have eA : A / 2 ^ k * 2 ^ k = A := Nat.div_mul_cancel (Nat.dvd_of_mod_eq_zero h0)
    rw [eA] at HL0
    have HL : Hid (∀ w, Calls Oajg.prog 187 #[.agg #[.int .u64 (qh : Int), .int .u64 (ql : Int)], .int .u8 (k : Int)] w fun e w' => e = .returned (.agg #[.int .u64 (ah : Int), .int .u64 (al : Int)]) ∧ Below w.heap.size w w') := fun w => Calls.mono (HL0 w) (by
      rintro e w' ⟨hi, lo, hw, rfl, hb⟩
      obtain ⟨h1, h2, h3⟩ := HA.out
      obtain ⟨g1, g2, g3⟩ := hw
      obtain ⟨rfl, rfl⟩ := w128_one g2 h2 (g3.trans h3.symm)
      exact ⟨rfl, hb⟩)
    have HJ : Hid (Wd qh ql (jamQ A (2 ^ k))) := jam_exact HQ.out h0
    clear HL0 eA h0 hle hAlt
    go_wp2_with fail
    go_region_held3 (fun W => (W.cell? ⟨w.heap.size, 0, none⟩ = some (.int .u64 (ah : Int)) ∧ W.cell? ⟨w.heap.size, 1, none⟩ = some (.int .u64 (al : Int)) ∧ (∀ o, W.frozen? ⟨w.heap.size, o, none⟩ = false) ∧ w.heap.size < W.heap.size) ∧ (W.cell? ⟨(w.heap.size + 1), 0, none⟩ = some (.int .u64 0) ∧ W.cell? ⟨(w.heap.size + 1), 1, none⟩ = some (.int .u64 0) ∧ (∀ o, W.frozen? ⟨(w.heap.size + 1), o, none⟩ = false) ∧ (w.heap.size + 1) < W.heap.size) ∧ (W.cell? ⟨w1.heap.size, 0, none⟩ = some (.int .u64 (qh : Int)) ∧ W.cell? ⟨w1.heap.size, 1, none⟩ = some (.int .u64 (ql : Int)) ∧ (∀ o, W.frozen? ⟨w1.heap.size, o, none⟩ = false) ∧ w1.heap.size < W.heap.size) ∧ Below w.heap.size w W)
      ((repeat' (first | with_reducible assumption | with_reducible refine tb_drew ?_)))
      ((go_at_call 187; refine Calls.mono (HL.out _) ?_; rintro _ w2 ⟨rfl, hb⟩; have hG2 := tb_next (by with_reducible assumption) hb; clear hb))
    obtain ⟨g1, g2, g3, g4⟩ := hG2
    have hne : w.heap.size + 1 ≠ w1.heap.size := by have := hs1.out; omega
    clear hG
    go_wp2_with fail
    refine bodyPost_ret (v := .agg #[.int .u64 (qh : Int), .int .u64 (ql : Int)]) (by simp [results, Oajg.results209, go_sem, g2]) rfl ⟨qh, ql, HJ.out, rfl, ?_⟩
    first
      | exact (g4.setCell (Nat.le_succ _) _).setCell (Nat.le_succ _) _
      | exact g4
  · have HJ : Hid (Wd qh (ql + (1 - ql % 2)) (jamQ A (2 ^ k))) := jam_words HQ.out h0
    have hOR := or1_u64 ql HQ.out.2.1
    obtain ⟨qo, hqo⟩ : ∃ qo, qo = ql + (1 - ql % 2) := ⟨_, rfl⟩
    rw [← hqo] at hOR HJ
    obtain ⟨sh, sl, hSW⟩ : ∃ sh sl, Wd sh sl (A / 2 ^ k * 2 ^ k) := ⟨_, _, wd_split (by omega)⟩
    have HL : Hid (∀ w, Calls Oajg.prog 187 #[.agg #[.int .u64 (qh : Int), .int .u64 (ql : Int)], .int .u8 (k : Int)] w fun e w' => e = .returned (.agg #[.int .u64 (sh : Int), .int .u64 (sl : Int)]) ∧ Below w.heap.size w w') := fun w => Calls.mono (HL0 w) (by
      rintro e w' ⟨hi, lo, hw, rfl, hb⟩
      obtain ⟨rfl, rfl⟩ := w128_one hw.2.1 hSW.2.1 (hw.2.2.trans hSW.2.2.symm)
      exact ⟨rfl, hb⟩)
    have hsne : (¬ (sh : Int) = (ah : Int)) ∨ (ah = sh ∧ ¬ (sl : Int) = (al : Int)) := by
      by_cases e1 : sh = ah
      · refine Or.inr ⟨e1.symm, ?_⟩
        intro e2
        have e3 : sl = al := by omega
        subst e1 e3
        have e4 : A = A / 2 ^ k * 2 ^ k := HA.out.2.2.symm.trans hSW.2.2
        have e5 := Nat.div_add_mod A (2 ^ k)
        rw [Nat.mul_comm] at e5
        omega
      · exact Or.inl (by omega)
    clear HL0 h0 hle hAlt hqo hSW
    have hne : w.heap.size + 1 ≠ w1.heap.size := by have := hs1.out; omega
    have hne2 : w1.heap.size ≠ w.heap.size + 1 := by have := hs1.out; omega
    have hle1 : w.heap.size ≤ w1.heap.size := by have := hs1.out; omega
    rcases hsne with hs | ⟨rfl, hs⟩
    all_goals
      go_wp2_with fail
      go_region_held3 (fun W => (W.cell? ⟨w.heap.size, 0, none⟩ = some (.int .u64 (ah : Int)) ∧ W.cell? ⟨w.heap.size, 1, none⟩ = some (.int .u64 (al : Int)) ∧ (∀ o, W.frozen? ⟨w.heap.size, o, none⟩ = false) ∧ w.heap.size < W.heap.size) ∧ (W.cell? ⟨(w.heap.size + 1), 0, none⟩ = some (.int .u64 0) ∧ W.cell? ⟨(w.heap.size + 1), 1, none⟩ = some (.int .u64 0) ∧ (∀ o, W.frozen? ⟨(w.heap.size + 1), o, none⟩ = false) ∧ (w.heap.size + 1) < W.heap.size) ∧ (W.cell? ⟨w1.heap.size, 0, none⟩ = some (.int .u64 (qh : Int)) ∧ W.cell? ⟨w1.heap.size, 1, none⟩ = some (.int .u64 (ql : Int)) ∧ (∀ o, W.frozen? ⟨w1.heap.size, o, none⟩ = false) ∧ w1.heap.size < W.heap.size) ∧ Below w.heap.size w W)
        ((repeat' (first | with_reducible assumption | with_reducible refine tb_drew ?_)))
        ((go_at_call 187; refine Calls.mono (HL.out _) ?_; rintro _ w2 ⟨rfl, hb⟩; have hG2 := tb_next (by with_reducible assumption) hb; clear hb))
      obtain ⟨g1, g2, g3, g4⟩ := hG2
      clear hG
      go_wp2_with fail
      refine bodyPost_ret (v := .agg #[.int .u64 (qh : Int), .int .u64 (qo : Int)]) (by simp [results, Oajg.results209, go_sem, g2, hne, hne2]) rfl ⟨qh, qo, HJ.out, rfl, ?_⟩
      first
        | exact (((g4.setCell hle1 _).setCell (Nat.le_succ _) _).setCell (Nat.le_succ _) _)
        | exact ((g4.setCell (Nat.le_succ _) _).setCell (Nat.le_succ _) _)

set_option maxRecDepth 100000 in
set_option maxHeartbeats 2000000 in
theorem wadd_ok (ah al bh bl A B : Nat) (hA : Wd ah al A) (hB : Wd bh bl B) (hno : A + B < 18446744073709551616 * 18446744073709551616) (w : World) :
    Calls Oajg.prog 191 #[.agg #[.int .u64 (ah : Int), .int .u64 (al : Int)], .agg #[.int .u64 (bh : Int), .int .u64 (bl : Int)]] w fun e w' => ∃ hi lo : Nat, Wd hi lo (A + B) ∧ e = .returned (.tuple #[.agg #[.int .u64 (hi : Int), .int .u64 (lo : Int)], .bool false]) ∧ Below w.heap.size w w' := by
  obtain ⟨a1, a2, rfl⟩ := hA
  obtain ⟨b1, b2, rfl⟩ := hB
  have HBW : Hid (Below w.heap.size w (((w.alloc (.cells #[.int .u64 (ah : Int), .int .u64 (al : Int)] 88)).alloc (.cells #[.int .u64 (bh : Int), .int .u64 (bl : Int)] 88)).alloc (.cells #[.int .u64 (0 : Int), .int .u64 (0 : Int)] 88))) := (((Below.refl _ _).alloc (Nat.le_refl _) _).alloc (by simp) _).alloc (by simp; omega) _
  have hR := bx2_made ((w.alloc (.cells #[.int .u64 (ah : Int), .int .u64 (al : Int)] 88)).alloc (.cells #[.int .u64 (bh : Int), .int .u64 (bl : Int)] 88)) (m := w.heap.size + 1 + 1) (.int .u64 0) (.int .u64 0) 88 (by simp)
  have hH : ah + bh < 18446744073709551616 := by unfold w128 at hno; omega
  obtain ⟨H, hHe⟩ : ∃ H, H = ah + bh := ⟨_, rfl⟩
  have kH : (ah : Int) + (bh : Int) = (H : Int) := by omega
  have kH2 : IntKind.u64.wrap ((ah : Int) + (bh : Int)) = (H : Int) := wrap64' kH (by omega)
  have jH : ¬ (H : Int) < (ah : Int) := by omega
  by_cases hc : al + bl < 18446744073709551616
  · obtain ⟨L, hL⟩ : ∃ L, L = al + bl := ⟨_, rfl⟩
    have kL : (al : Int) + (bl : Int) = (L : Int) := by omega
    have kL2 : IntKind.u64.wrap ((al : Int) + (bl : Int)) = (L : Int) := wrap64' kL (by omega)
    have jL : ¬ (L : Int) < (al : Int) := by omega
    have HW : Hid (Wd H L (w128 ah al + w128 bh bl)) := ⟨by omega, by omega, by unfold w128; omega⟩
    have hH64 : H < 18446744073709551616 := by omega
    have hL64 : L < 18446744073709551616 := by omega
    clear hno hc hHe hL hH
    go_enter Oajg.func191, Oajg.ntmps191
    go_wp2_with fail
    refine bodyPost_ret (v := .tuple #[.agg #[.int .u64 (H : Int), .int .u64 (L : Int)], .bool false]) (by simp [results, Oajg.results191, go_sem, hR]) rfl ⟨H, L, HW.out, rfl, ?_⟩
    first
      | exact (HBW.out.setCell (show w.heap.size ≤ w.heap.size + 1 + 1 by omega) _).setCell (show w.heap.size ≤ w.heap.size + 1 + 1 by omega) _
      | exact HBW.out
      | exact (((Below.refl _ _).alloc (Nat.le_refl _) _).alloc (by simp) _).alloc (by simp; omega) _
  · obtain ⟨L, hL⟩ : ∃ L, L + 18446744073709551616 = al + bl := ⟨al + bl - 18446744073709551616, by omega⟩
    have kL2 : IntKind.u64.wrap ((al : Int) + (bl : Int)) = (L : Int) := by rw [IntKind.wrap_u64]; omega
    have jL : (L : Int) < (al : Int) := by omega
    have hH1 : H + 1 < 18446744073709551616 := by unfold w128 at hno; omega
    obtain ⟨H', hH'⟩ : ∃ H', H' = H + 1 := ⟨_, rfl⟩
    have kH' : (H : Int) + 1 = (H' : Int) := by omega
    have kH'2 : IntKind.u64.wrap ((H : Int) + 1) = (H' : Int) := wrap64' kH' (by omega)
    have jH' : ¬ (H' : Int) = 0 := by omega
    have jH'' : ¬ H' = 0 := by omega
    have HW : Hid (Wd H' L (w128 ah al + w128 bh bl)) := ⟨by omega, by omega, by unfold w128; omega⟩
    have hH64 : H < 18446744073709551616 := by omega
    have hL64 : L < 18446744073709551616 := by omega
    have hH'64 : H' < 18446744073709551616 := by omega
    clear hno hc hHe hL hH hH1 hH'
    go_enter Oajg.func191, Oajg.ntmps191
    go_wp2_with fail
    refine bodyPost_ret (v := .tuple #[.agg #[.int .u64 (H' : Int), .int .u64 (L : Int)], .bool false]) (by simp [results, Oajg.results191, go_sem, hR, jH'']) rfl ⟨H', L, HW.out, rfl, ?_⟩
    first
      | exact (HBW.out.setCell (show w.heap.size ≤ w.heap.size + 1 + 1 by omega) _).setCell (show w.heap.size ≤ w.heap.size + 1 + 1 by omega) _
      | exact HBW.out
      | exact (((Below.refl _ _).alloc (Nat.le_refl _) _).alloc (by simp) _).alloc (by simp; omega) _

theorem bits128 {hi lo : Nat} (h2 : lo < 18446744073709551616) : bitLen (w128 hi lo) = if hi = 0 then bitLen lo else bitLen hi + 64 := by
  split
  · rename_i h; subst h; unfold w128; simp
  · rename_i h
    have a1 := bitLen_lt hi
    have a2 := bitLen_le h
    have a3 := bitLen_pos h
    obtain ⟨L, hL⟩ : ∃ L, bitLen hi = L + 1 := ⟨bitLen hi - 1, by omega⟩
    rw [hL] at a1 a2 ⊢
    have e1 : 2 ^ (L + 64) = 2 ^ L * 18446744073709551616 := Nat.pow_add 2 L 64
    have e2 : 2 ^ (L + 64 + 1) = 2 ^ (L + 1) * 18446744073709551616 := by rw [show L + 64 + 1 = L + 1 + 64 by omega]; exact Nat.pow_add 2 (L + 1) 64
    have a4 : 2 ^ L ≤ hi := a2
    have := bitLen_uniq (x := w128 hi lo) (n := L + 64) (by rw [e1]; unfold w128; omega) (by rw [e2]; unfold w128; omega)
    omega

set_option maxRecDepth 100000 in
set_option maxHeartbeats 4000000 in
theorem jam_ok (ah al A : Nat) (exp : Int) (h : Wd ah al A) (hA0 : A ≠ 0) (he1 : -20000 < exp) (he2 : exp < 20000) (w : World) :
    Calls Oajg.prog 183 #[.agg #[.int .u64 (ah : Int), .int .u64 (al : Int)], .int .i16 exp] w fun e w' => e = .returned (.tuple #[.int .u64 (jamQ (A * 2 ^ (128 - bitLen A)) 18446744073709551616 : Nat), .int .i16 (exp + 64 - ((128 - bitLen A : Nat) : Int))]) ∧ Below w.heap.size w w' := by
  have hAlt := wd_lt h
  have hbl := bits128 (hi := ah) h.2.1
  rw [h.2.2] at hbl
  have hb128 : bitLen A ≤ 128 := bitLen_le_of_lt (n := 128) hAlt
  have hbpos := bitLen_pos hA0
  obtain ⟨k, hk⟩ : ∃ k, k = 128 - bitLen A := ⟨_, rfl⟩
  rw [← hk]
  have hsh : A * 2 ^ k < 18446744073709551616 * 18446744073709551616 := by
    have h1 := Nat.mul_lt_mul_of_pos_right (bitLen_lt A) (pp k)
    rw [← Nat.pow_add, show bitLen A + k = 128 by omega] at h1
    exact h1
  have HL0 : ∀ w, Calls Oajg.prog 187 #[.agg #[.int .u64 (ah : Int), .int .u64 (al : Int)], .int .u8 (k : Int)] w fun e w' => ∃ hi lo : Nat, Wd hi lo (A * 2 ^ k) ∧ e = .returned (.agg #[.int .u64 (hi : Int), .int .u64 (lo : Int)]) ∧ Below w.heap.size w w' := wshl_all ah al k A h (by omega) hsh
  obtain ⟨sh, sl, hSW⟩ : ∃ sh sl, Wd sh sl (A * 2 ^ k) := ⟨_, _, wd_split hsh⟩
  have HL : Hid (∀ w, Calls Oajg.prog 187 #[.agg #[.int .u64 (ah : Int), .int .u64 (al : Int)], .int .u8 (k : Int)] w fun e w' => e = .returned (.agg #[.int .u64 (sh : Int), .int .u64 (sl : Int)]) ∧ Below w.heap.size w w') := fun w => Calls.mono (HL0 w) (by
    rintro e w' ⟨hi, lo, hw, rfl, hb⟩
    obtain ⟨rfl, rfl⟩ := w128_one hw.2.1 hSW.2.1 (hw.2.2.trans hSW.2.2.symm)
    exact ⟨rfl, hb⟩)
  have hhi : A * 2 ^ k / 18446744073709551616 = sh := by rw [← hSW.2.2]; exact w128_hi hSW.2.1
  have hlo : A * 2 ^ k % 18446744073709551616 = sl := by rw [← hSW.2.2]; exact w128_lo hSW.2.1
  have HOR := or1_u64 sh hSW.1
  have hsh64 := hSW.1
  have hsl64 := hSW.2.1
  have ha1 := h.1
  have ha2 := h.2.1
  have hR := bx2_made w (m := w.heap.size) (.int .u64 (ah : Int)) (.int .u64 (al : Int)) 88 rfl
  have hB0 := hidden (show Below w.heap.size w (w.alloc (.cells #[.int .u64 (ah : Int), .int .u64 (al : Int)] 88)) from (Below.refl _ _).alloc (Nat.le_refl _) _)
  obtain ⟨J, hJ⟩ : ∃ J, J = jamQ (A * 2 ^ k) 18446744073709551616 := ⟨_, rfl⟩
  have hJ2 : J = if sl = 0 then sh else sh + (1 - sh % 2) := by rw [hJ]; unfold jamQ; rw [hhi, hlo]
  rw [← hJ]
  obtain ⟨so, hso⟩ : ∃ so, so = sh + (1 - sh % 2) := ⟨_, rfl⟩
  rw [← hso] at HOR hJ2
  have hke : (k : Int) < 128 := by omega
  have kx : exp + 64 - (k : Int) = exp + 64 - (k : Int) := rfl
  by_cases hz : ah = 0
  · subst hz
    have hal : al ≠ 0 := by
      rintro rfl
      exact hA0 (h.2.2.symm.trans (by decide))
    rw [if_pos rfl] at hbl
    have HC0 : Hid (∀ w, Calls Oajg.prog 133 #[.int .u64 0] w fun e w' => e = .returned (.int .u8 64) ∧ w' = w) := clz_zero
    have HC1 : Hid (∀ w, Calls Oajg.prog 133 #[.int .u64 (al : Int)] w fun e w' => e = .returned (.int .u8 ((64 - bitLen al : Nat) : Int)) ∧ w' = w) := clz_ok al ha2 hal
    have hal64 : bitLen al ≤ 64 := bitLen_le_of_lt (n := 64) ha2
    obtain ⟨c, hc⟩ : ∃ c, c = 64 - bitLen al := ⟨_, rfl⟩
    rw [← hc] at HC1
    have hkc : (64 : Int) + (c : Int) = (k : Int) := by omega
    have hc64 : c ≤ 64 := by omega
    have kW : IntKind.u8.wrap ((64 : Int) + (c : Int)) = (k : Int) := by rw [hkc, IntKind.wrap_u8]; omega
    clear h hbl hk hsh HL0 hSW hhi hlo hJ hso hA0 hAlt hb128 hbpos hc kx
    by_cases hs : sl = 0
    · rw [if_pos hs] at hJ2
      subst hs hJ2
      go_enter Oajg.func183, Oajg.ntmps183
      go_wp2_with fail
      refine Calls.mono (HC0.out _) ?_
      rintro _ w0 ⟨rfl, hw⟩
      subst w0
      go_wp2_with fail
      refine Calls.mono (HC1.out _) ?_
      rintro _ w0 ⟨rfl, hw⟩
      subst w0
      go_wp2_with fail
      refine Calls.mono (HL.out _) ?_
      rintro _ w1 ⟨rfl, hb⟩
      replace hR := bx2_next hR hb
      replace hB0 := hidden (below_then hB0.out hb)
      clear hb
      go_wp2_with fail
      go_ret2
      exact ⟨rfl, (hB0.out.setCell (Nat.le_refl _) _).setCell (Nat.le_refl _) _⟩
    · rw [if_neg hs] at hJ2
      subst hJ2
      have hsi : ¬ (sl : Int) = 0 := by omega
      go_enter Oajg.func183, Oajg.ntmps183
      go_wp2_with fail
      refine Calls.mono (HC0.out _) ?_
      rintro _ w0 ⟨rfl, hw⟩
      subst w0
      go_wp2_with fail
      refine Calls.mono (HC1.out _) ?_
      rintro _ w0 ⟨rfl, hw⟩
      subst w0
      go_wp2_with fail
      refine Calls.mono (HL.out _) ?_
      rintro _ w1 ⟨rfl, hb⟩
      replace hR := bx2_next hR hb
      replace hB0 := hidden (below_then hB0.out hb)
      clear hb
      go_wp2_with fail
      go_ret2
      exact ⟨rfl, ((hB0.out.setCell (Nat.le_refl _) _).setCell (Nat.le_refl _) _).setCell (Nat.le_refl _) _⟩
  · rw [if_neg hz] at hbl
    have HC1 : Hid (∀ w, Calls Oajg.prog 133 #[.int .u64 (ah : Int)] w fun e w' => e = .returned (.int .u8 ((64 - bitLen ah : Nat) : Int)) ∧ w' = w) := clz_ok ah ha1 hz
    have hah64 : bitLen ah ≤ 64 := bitLen_le_of_lt (n := 64) ha1
    have hck : 64 - bitLen ah = k := by omega
    rw [hck] at HC1
    have hzi : ¬ (ah : Int) = 0 := by omega
    clear h hbl hk hsh HL0 hSW hhi hlo hJ hso hA0 hAlt hb128 hbpos hck kx hz
    by_cases hs : sl = 0
    · rw [if_pos hs] at hJ2
      subst hs hJ2
      go_enter Oajg.func183, Oajg.ntmps183
      go_wp2_with fail
      refine Calls.mono (HC1.out _) ?_
      rintro _ w0 ⟨rfl, hw⟩
      subst w0
      go_wp2_with fail
      refine Calls.mono (HL.out _) ?_
      rintro _ w1 ⟨rfl, hb⟩
      replace hR := bx2_next hR hb
      replace hB0 := hidden (below_then hB0.out hb)
      clear hb
      go_wp2_with fail
      go_ret2
      exact ⟨rfl, (hB0.out.setCell (Nat.le_refl _) _).setCell (Nat.le_refl _) _⟩
    · rw [if_neg hs] at hJ2
      subst hJ2
      have hsi : ¬ (sl : Int) = 0 := by omega
      go_enter Oajg.func183, Oajg.ntmps183
      go_wp2_with fail
      refine Calls.mono (HC1.out _) ?_
      rintro _ w0 ⟨rfl, hw⟩
      subst w0
      go_wp2_with fail
      refine Calls.mono (HL.out _) ?_
      rintro _ w1 ⟨rfl, hb⟩
      replace hR := bx2_next hR hb
      replace hB0 := hidden (below_then hB0.out hb)
      clear hb
      go_wp2_with fail
      go_ret2
      exact ⟨rfl, ((hB0.out.setCell (Nat.le_refl _) _).setCell (Nat.le_refl _) _).setCell (Nat.le_refl _) _⟩

end Go.Proofs.Ygcoaj
