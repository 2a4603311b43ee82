/-
  WALKS: ScaleBFlags and LogBFlags, soft's and exact's.
-/
import Derived.Test.YgcoajCv
set_option linter.unusedVariables false
set_option linter.unusedSimpArgs false
namespace Go.Proofs.Ygcoaj
open Go.RowKit

theorem sg4_next {w W W' : World} {b E M : Nat} {n : Nat} {u0 u1 u2 u3 : Value} (h : (W.cell? ⟨b, 0, none⟩ = some (.int .u8 (E : Int)) ∧ W.cell? ⟨b, 1, none⟩ = some (.int .u8 (M : Int)) ∧ b < W.heap.size ∧ Below w.heap.size w W) ∧ (W.cell? ⟨n, 0, none⟩ = some u0 ∧ W.cell? ⟨n, 1, none⟩ = some u1 ∧ W.cell? ⟨n, 2, none⟩ = some u2 ∧ W.cell? ⟨n, 3, none⟩ = some u3 ∧ (∀ o, W.frozen? ⟨n, o, none⟩ = false) ∧ n < W.heap.size)) (hb : Below W.heap.size W W') : (W'.cell? ⟨b, 0, none⟩ = some (.int .u8 (E : Int)) ∧ W'.cell? ⟨b, 1, none⟩ = some (.int .u8 (M : Int)) ∧ b < W'.heap.size ∧ Below w.heap.size w W') ∧ (W'.cell? ⟨n, 0, none⟩ = some u0 ∧ W'.cell? ⟨n, 1, none⟩ = some u1 ∧ W'.cell? ⟨n, 2, none⟩ = some u2 ∧ W'.cell? ⟨n, 3, none⟩ = some u3 ∧ (∀ o, W'.frozen? ⟨n, o, none⟩ = false) ∧ n < W'.heap.size) := ⟨sf_next h.1 hb, bx4_next h.2 hb⟩
theorem sg4_drew {w W : World} {b E M : Nat} {n : Nat} {u0 u1 u2 u3 : Value} (h : (W.cell? ⟨b, 0, none⟩ = some (.int .u8 (E : Int)) ∧ W.cell? ⟨b, 1, none⟩ = some (.int .u8 (M : Int)) ∧ b < W.heap.size ∧ Below w.heap.size w W) ∧ (W.cell? ⟨n, 0, none⟩ = some u0 ∧ W.cell? ⟨n, 1, none⟩ = some u1 ∧ W.cell? ⟨n, 2, none⟩ = some u2 ∧ W.cell? ⟨n, 3, none⟩ = some u3 ∧ (∀ o, W.frozen? ⟨n, o, none⟩ = false) ∧ n < W.heap.size)) : (W.drew.cell? ⟨b, 0, none⟩ = some (.int .u8 (E : Int)) ∧ W.drew.cell? ⟨b, 1, none⟩ = some (.int .u8 (M : Int)) ∧ b < W.drew.heap.size ∧ Below w.heap.size w W.drew) ∧ (W.drew.cell? ⟨n, 0, none⟩ = some u0 ∧ W.drew.cell? ⟨n, 1, none⟩ = some u1 ∧ W.drew.cell? ⟨n, 2, none⟩ = some u2 ∧ W.drew.cell? ⟨n, 3, none⟩ = some u3 ∧ (∀ o, W.drew.frozen? ⟨n, o, none⟩ = false) ∧ n < W.drew.heap.size) := ⟨sf_drew h.1, bx4_drew h.2⟩
theorem sg4_made {w W : World} {b E M : Nat} (t : Nat) (h : (W.cell? ⟨b, 0, none⟩ = some (.int .u8 (E : Int)) ∧ W.cell? ⟨b, 1, none⟩ = some (.int .u8 (M : Int)) ∧ b < W.heap.size ∧ Below w.heap.size w W)) (u0 u1 u2 u3 : Value) : ((W.alloc (.cells #[u0, u1, u2, u3] t)).cell? ⟨b, 0, none⟩ = some (.int .u8 (E : Int)) ∧ (W.alloc (.cells #[u0, u1, u2, u3] t)).cell? ⟨b, 1, none⟩ = some (.int .u8 (M : Int)) ∧ b < (W.alloc (.cells #[u0, u1, u2, u3] t)).heap.size ∧ Below w.heap.size w (W.alloc (.cells #[u0, u1, u2, u3] t))) ∧ ((W.alloc (.cells #[u0, u1, u2, u3] t)).cell? ⟨W.heap.size, 0, none⟩ = some u0 ∧ (W.alloc (.cells #[u0, u1, u2, u3] t)).cell? ⟨W.heap.size, 1, none⟩ = some u1 ∧ (W.alloc (.cells #[u0, u1, u2, u3] t)).cell? ⟨W.heap.size, 2, none⟩ = some u2 ∧ (W.alloc (.cells #[u0, u1, u2, u3] t)).cell? ⟨W.heap.size, 3, none⟩ = some u3 ∧ (∀ o, (W.alloc (.cells #[u0, u1, u2, u3] t)).frozen? ⟨W.heap.size, o, none⟩ = false) ∧ W.heap.size < (W.alloc (.cells #[u0, u1, u2, u3] t)).heap.size) := ⟨sf_alloc h _, bx4_made W (m := W.heap.size) u0 u1 u2 u3 t rfl⟩
theorem sg6_next {w W W' : World} {b E M : Nat} {n : Nat} {u0 u1 u2 u3 u4 u5 : Value} (h : (W.cell? ⟨b, 0, none⟩ = some (.int .u8 (E : Int)) ∧ W.cell? ⟨b, 1, none⟩ = some (.int .u8 (M : Int)) ∧ b < W.heap.size ∧ Below w.heap.size w W) ∧ (W.cell? ⟨n, 0, none⟩ = some u0 ∧ W.cell? ⟨n, 1, none⟩ = some u1 ∧ W.cell? ⟨n, 2, none⟩ = some u2 ∧ W.cell? ⟨n, 3, none⟩ = some u3 ∧ W.cell? ⟨n, 4, none⟩ = some u4 ∧ W.cell? ⟨n, 5, none⟩ = some u5 ∧ (∀ o, W.frozen? ⟨n, o, none⟩ = false) ∧ n < W.heap.size)) (hb : Below W.heap.size W W') : (W'.cell? ⟨b, 0, none⟩ = some (.int .u8 (E : Int)) ∧ W'.cell? ⟨b, 1, none⟩ = some (.int .u8 (M : Int)) ∧ b < W'.heap.size ∧ Below w.heap.size w W') ∧ (W'.cell? ⟨n, 0, none⟩ = some u0 ∧ W'.cell? ⟨n, 1, none⟩ = some u1 ∧ W'.cell? ⟨n, 2, none⟩ = some u2 ∧ W'.cell? ⟨n, 3, none⟩ = some u3 ∧ W'.cell? ⟨n, 4, none⟩ = some u4 ∧ W'.cell? ⟨n, 5, none⟩ = some u5 ∧ (∀ o, W'.frozen? ⟨n, o, none⟩ = false) ∧ n < W'.heap.size) := ⟨sf_next h.1 hb, bx6_next h.2 hb⟩
theorem sg6_drew {w W : World} {b E M : Nat} {n : Nat} {u0 u1 u2 u3 u4 u5 : Value} (h : (W.cell? ⟨b, 0, none⟩ = some (.int .u8 (E : Int)) ∧ W.cell? ⟨b, 1, none⟩ = some (.int .u8 (M : Int)) ∧ b < W.heap.size ∧ Below w.heap.size w W) ∧ (W.cell? ⟨n, 0, none⟩ = some u0 ∧ W.cell? ⟨n, 1, none⟩ = some u1 ∧ W.cell? ⟨n, 2, none⟩ = some u2 ∧ W.cell? ⟨n, 3, none⟩ = some u3 ∧ W.cell? ⟨n, 4, none⟩ = some u4 ∧ W.cell? ⟨n, 5, none⟩ = some u5 ∧ (∀ o, W.frozen? ⟨n, o, none⟩ = false) ∧ n < W.heap.size)) : (W.drew.cell? ⟨b, 0, none⟩ = some (.int .u8 (E : Int)) ∧ W.drew.cell? ⟨b, 1, none⟩ = some (.int .u8 (M : Int)) ∧ b < W.drew.heap.size ∧ Below w.heap.size w W.drew) ∧ (W.drew.cell? ⟨n, 0, none⟩ = some u0 ∧ W.drew.cell? ⟨n, 1, none⟩ = some u1 ∧ W.drew.cell? ⟨n, 2, none⟩ = some u2 ∧ W.drew.cell? ⟨n, 3, none⟩ = some u3 ∧ W.drew.cell? ⟨n, 4, none⟩ = some u4 ∧ W.drew.cell? ⟨n, 5, none⟩ = some u5 ∧ (∀ o, W.drew.frozen? ⟨n, o, none⟩ = false) ∧ n < W.drew.heap.size) := ⟨sf_drew h.1, bx6_drew h.2⟩
theorem sg6_made {w W : World} {b E M : Nat} (t : Nat) (h : (W.cell? ⟨b, 0, none⟩ = some (.int .u8 (E : Int)) ∧ W.cell? ⟨b, 1, none⟩ = some (.int .u8 (M : Int)) ∧ b < W.heap.size ∧ Below w.heap.size w W)) (u0 u1 u2 u3 u4 u5 : Value) : ((W.alloc (.cells #[u0, u1, u2, u3, u4, u5] t)).cell? ⟨b, 0, none⟩ = some (.int .u8 (E : Int)) ∧ (W.alloc (.cells #[u0, u1, u2, u3, u4, u5] t)).cell? ⟨b, 1, none⟩ = some (.int .u8 (M : Int)) ∧ b < (W.alloc (.cells #[u0, u1, u2, u3, u4, u5] t)).heap.size ∧ Below w.heap.size w (W.alloc (.cells #[u0, u1, u2, u3, u4, u5] t))) ∧ ((W.alloc (.cells #[u0, u1, u2, u3, u4, u5] t)).cell? ⟨W.heap.size, 0, none⟩ = some u0 ∧ (W.alloc (.cells #[u0, u1, u2, u3, u4, u5] t)).cell? ⟨W.heap.size, 1, none⟩ = some u1 ∧ (W.alloc (.cells #[u0, u1, u2, u3, u4, u5] t)).cell? ⟨W.heap.size, 2, none⟩ = some u2 ∧ (W.alloc (.cells #[u0, u1, u2, u3, u4, u5] t)).cell? ⟨W.heap.size, 3, none⟩ = some u3 ∧ (W.alloc (.cells #[u0, u1, u2, u3, u4, u5] t)).cell? ⟨W.heap.size, 4, none⟩ = some u4 ∧ (W.alloc (.cells #[u0, u1, u2, u3, u4, u5] t)).cell? ⟨W.heap.size, 5, none⟩ = some u5 ∧ (∀ o, (W.alloc (.cells #[u0, u1, u2, u3, u4, u5] t)).frozen? ⟨W.heap.size, o, none⟩ = false) ∧ W.heap.size < (W.alloc (.cells #[u0, u1, u2, u3, u4, u5] t)).heap.size) := ⟨sf_alloc h _, bx6_made W (m := W.heap.size) u0 u1 u2 u3 u4 u5 t rfl⟩

/-- n held between -5000 and 5000 -/
def scK (n : Int) : Int := min (max n (-5000)) 5000
def scNum (E M a : Nat) (n : Int) : Nat := vNum E M a * 2 ^ (scK n).toNat
def scDen (E M a : Nat) (n : Int) : Nat := vDen E M a * 2 ^ (-scK n).toNat
/-- ScaleB, plain -/
def scN (E M mo a : Nat) (n : Int) : Nat := if upC E M a = 4 then nanN E M else if upC E M a = 3 then sgnd E M (fNeg E M a) (infN E M) else rfN E M mo (fNeg E M a) (scNum E M a n) (scDen E M a n)
def scF (E M mo a : Nat) (n : Int) : Int := if upC E M a = 4 then hdI E M a else if upC E M a = 3 then 0 else (rfF E M mo (fNeg E M a) (scNum E M a n) (scDen E M a n) : Nat)

theorem scDen_ne (E M a : Nat) (n : Int) : scDen E M a n ≠ 0 := Nat.mul_ne_zero (vDen_ne _ _ _) (Nat.ne_of_gt (pp _))
theorem scK_range (n : Int) : -5000 ≤ scK n ∧ scK n ≤ 5000 := by unfold scK; omega
theorem sc_law {E M mo a : Nat} {neg : Bool} {n : Int} (h : FOk E M) : rpN E M mo neg (upE E M a + scK n) (upM E M a) = rfN E M mo neg (scNum E M a n) (scDen E M a n) ∧ rpF E M mo neg (upE E M a + scK n) (upM E M a) = rfF E M mo neg (scNum E M a n) (scDen E M a n) := by
  refine rp_rf (a0 := (-upE E M a).toNat + (-scK n).toNat) (b0 := (upE E M a).toNat + (scK n).toNat) h (upM_lt E M a (by have := h.m52; omega)) (scDen_ne _ _ _ _) (by omega) ?_
  unfold scNum scDen vNum vDen
  rw [Nat.pow_add, Nat.pow_add]
  grind
theorem bits_inf {E M a : Nat} (h : FOk E M) (h3 : upC E M a = 3) : a % 2 ^ (E + M + 1) = sgnd E M (fNeg E M a) (infN E M) := by
  have hx : fExp E M a = 2 ^ E - 1 ∧ fMan M a = 0 := by
    unfold upC at h3
    split at h3
    · rename_i h1
      split at h3
      · rename_i h2; exact ⟨h1, h2⟩
      · omega
    · split at h3
      · split at h3 <;> omega
      · omega
  obtain ⟨h1, h2⟩ := hx
  have e1 : a % 2 ^ (E + M + 1) = a % 2 ^ (E + M) + 2 ^ (E + M) * (a / 2 ^ (E + M) % 2) := by rw [Nat.pow_succ, Nat.mod_mul]
  have e2 : a % 2 ^ (E + M) = a % 2 ^ M + 2 ^ M * (a / 2 ^ M % 2 ^ E) := by rw [Nat.add_comm E M, Nat.pow_add, Nat.mod_mul]
  have e3 : a % 2 ^ M = 0 := h2
  have e4 : a / 2 ^ M % 2 ^ E = 2 ^ E - 1 := h1
  rw [e1, e2, e3, e4]
  have e5 : fNeg E M a = decide (a / 2 ^ (E + M) % 2 = 1) := by unfold fNeg; rw [Nat.testBit_eq_decide_div_mod_eq]
  unfold sgnd infN
  rw [e5]
  rcases Nat.mod_two_eq_zero_or_one (a / 2 ^ (E + M)) with h | h
  · rw [h]; simp [Nat.mul_comm]
  · rw [h]; simp [Nat.mul_comm]

/-! ### LogB, plain -/
def lbOk (E M a : Nat) : Bool := decide (upC E M a = 1) || decide (upC E M a = 2)
def lbN (E M a : Nat) : Int := if lbOk E M a then upE E M a + (M : Int) else 0
def lbF (E M a : Nat) : Int := if lbOk E M a then 0 else 1
theorem upM_norm {E M a : Nat} (h : FOk E M) (ho : lbOk E M a = true) : 2 ^ M ≤ upM E M a ∧ upM E M a < 2 ^ (M + 1) := by
  unfold lbOk at ho
  simp only [Bool.or_eq_true, decide_eq_true_eq] at ho
  have hm : fMan M a < 2 ^ M := Nat.mod_lt _ (pow2_pos M)
  unfold upM
  rcases ho with h1 | h2
  · rw [if_pos h1]
    have hm0 : fMan M a ≠ 0 := by
      intro h0
      unfold upC at h1
      rw [h0] at h1
      simp at h1
      split at h1
      · omega
      · split at h1 <;> omega
    have a1 := bitLen_lt (fMan M a)
    have a2 := bitLen_le hm0
    have a3 := bitLen_pos hm0
    have a4 : bitLen (fMan M a) ≤ M := bitLen_le_of_lt hm
    have e1 : 2 ^ (bitLen (fMan M a) - 1) * 2 ^ (M + 1 - bitLen (fMan M a)) = 2 ^ M := by rw [← Nat.pow_add]; congr 1; omega
    have e2 : 2 ^ bitLen (fMan M a) * 2 ^ (M + 1 - bitLen (fMan M a)) = 2 ^ (M + 1) := by rw [← Nat.pow_add]; congr 1; omega
    rw [← e2]
    constructor
    · rw [← e1]; exact Nat.mul_le_mul_right _ a2
    · exact Nat.mul_lt_mul_of_pos_right a1 (pp _)
  · rw [if_neg (by omega), if_pos h2, Nat.pow_succ]
    omega
theorem upM_zero {E M a : Nat} (ho : lbOk E M a = false) : upM E M a = 0 := by
  unfold lbOk at ho
  simp only [Bool.or_eq_false_iff, decide_eq_false_iff_not] at ho
  unfold upM
  rw [if_neg ho.1, if_neg ho.2]
theorem lb_law {E M a : Nat} (h : FOk E M) (ho : lbOk E M a = true) : lg2 (vNum E M a) (vDen E M a) (lgD (vNum E M a) (vDen E M a) - 1) (lgD (vNum E M a) (vDen E M a)) = upE E M a + (M : Int) := by
  obtain ⟨h1, h2⟩ := upM_norm h ho
  have hn : vNum E M a ≠ 0 := by
    unfold vNum
    have := pp M
    exact Nat.mul_ne_zero (by omega) (Nat.ne_of_gt (pp _))
  have low : ∀ x y : Nat, (y : Int) - x = upE E M a + (M : Int) → vDen E M a * 2 ^ y ≤ vNum E M a * 2 ^ x := fun x y hxy => by
    refine sp_le (a := (-upE E M a).toNat) (b := (upE E M a).toNat + M) (by omega) ?_
    unfold vNum vDen
    rw [mulpow, Nat.mul_comm (upM E M a), Nat.mul_right_comm (2 ^ (upE E M a).toNat), Nat.mul_comm (2 ^ (-upE E M a).toNat)]
    exact Nat.mul_le_mul_left _ h1
  have up : ∀ x y : Nat, (y : Int) - x = upE E M a + (M : Int) + 1 → vNum E M a * 2 ^ x < vDen E M a * 2 ^ y := fun x y hxy => by
    refine sp_lt (a := (-upE E M a).toNat) (b := (upE E M a).toNat + (M + 1)) (by omega) ?_
    unfold vNum vDen
    rw [mulpow, Nat.mul_comm (upM E M a), Nat.mul_right_comm (2 ^ (upE E M a).toNat), Nat.mul_comm (2 ^ (-upE E M a).toNat)]
    exact Nat.mul_lt_mul_of_pos_left h2 (Nat.mul_pos (pp _) (pp _))
  have k1 : upE E M a + (M : Int) < lgD (vNum E M a) (vDen E M a) + 1 := pow_order (vDen_ne E M a) low (fun x y hh => lgD_up hn (vDen_ne E M a) hh)
  have k2 : lgD (vNum E M a) (vDen E M a) - 1 < upE E M a + (M : Int) + 1 := pow_order (vDen_ne E M a) (fun x y hh => lgD_low hn (vDen_ne E M a) hh) up
  rw [lg2_eq hn (vDen_ne E M a) (by omega) low up]
  omega
theorem lgD_small {E M a : Nat} (h : FOk E M) : -5000 ≤ lgD (vNum E M a) (vDen E M a) ∧ lgD (vNum E M a) (vDen E M a) ≤ 5000 := by
  have hr := upE_range h a
  have hm := upM_lt E M a (by have := h.m52; omega)
  have b1 : bitLen (vNum E M a) ≤ 64 + (upE E M a).toNat := by
    refine bitLen_le_of_lt ?_
    unfold vNum
    rw [Nat.pow_add]
    exact Nat.mul_lt_mul_of_pos_right hm (pp _)
  have b2 : bitLen (vDen E M a) ≤ (-upE E M a).toNat + 1 := by
    refine bitLen_le_of_lt ?_
    unfold vDen
    exact Nat.pow_lt_pow_right (by decide) (by omega)
  unfold lgD
  omega

set_option maxRecDepth 100000 in
set_option maxHeartbeats 1000000 in
theorem scaleFlagsS_not (E M : Nat) (h : okB E M = false) (mo a : Nat) (n : Int) (w : World) :
    Calls Oajg.prog 32 #[.agg #[.int .u8 (E : Int), .int .u8 (M : Int)], .int .u8 (mo : Int), .int .u64 (a : Int), .int .i64 n] w fun e w' => e = .returned (.tuple #[.int .u64 0, .int .u8 0]) ∧ Below w.heap.size w w' := by
  have hF := sf_box w E M
  have HO : Hid (∀ w, Calls Oajg.prog 17 #[.agg #[.int .u8 (E : Int), .int .u8 (M : Int)]] w fun e w' => e = .returned (.bool false) ∧ Below w.heap.size w w') := ok_not h
  clear h
  go_enter Oajg.func32, Oajg.ntmps32
  go_wp2_with fail
  refine Calls.mono (HO.out _) ?_
  rintro _ w1 ⟨rfl, hb⟩
  replace hF := sf_next hF hb
  clear hb
  go_wp2_with fail
  go_ret2
  exact ⟨rfl, hF.2.2.2⟩

set_option maxRecDepth 100000 in
set_option maxHeartbeats 4000000 in
theorem scaleFlagsS_ok (E M : Nat) (h : FOk E M) (mo a : Nat) (ha : a < 18446744073709551616) (n : Int) (w : World) :
    Calls Oajg.prog 32 #[.agg #[.int .u8 (E : Int), .int .u8 (M : Int)], .int .u8 (mo : Int), .int .u64 (a : Int), .int .i64 n] w fun e w' => e = .returned (.tuple #[.int .u64 (scN E M mo a n : Nat), .int .u8 (scF E M mo a n)]) ∧ Below w.heap.size w w' := by
  have hF := sf_box w E M
  have HO : Hid (∀ w, Calls Oajg.prog 17 #[.agg #[.int .u8 (E : Int), .int .u8 (M : Int)]] w fun e w' => e = .returned (.bool true) ∧ Below w.heap.size w w') := ok_yes h
  have HNA : Hid (∀ w, Calls Oajg.prog 64 #[.agg #[.int .u8 (E : Int), .int .u8 (M : Int)]] w fun e w' => e = .returned (.int .u64 (nanN E M : Nat)) ∧ Below w.heap.size w w') := nan_ok E M h
  have HHE : Hid (∀ w, Calls Oajg.prog 83 #[.agg #[.int .u8 (E : Int), .int .u8 (M : Int)], .int .u64 (a : Int), .int .u64 (a : Int)] w fun e w' => e = .returned (.int .u8 (hdI E M a)) ∧ Below w.heap.size w w') := heardS_ok E M h a a ha ha
  have HIN : Hid (∀ w, Calls Oajg.prog 84 #[.agg #[.int .u8 (E : Int), .int .u8 (M : Int)], .bool (fNeg E M a)] w fun e w' => e = .returned (.int .u64 (sgnd E M (fNeg E M a) (infN E M) : Nat)) ∧ Below w.heap.size w w') := inf_ok E M h (fNeg E M a)
  have hKr := scK_range n
  obtain ⟨K, hK⟩ : ∃ K, K = scK n := ⟨_, rfl⟩
  have kK : min (max n (-5000)) 5000 = K := hK.symm
  have HUP : Hid (∀ w, Calls Oajg.prog 74 #[.agg #[.int .u8 (E : Int), .int .u8 (M : Int)], .int .u64 (a : Int)] w fun e w' => e = .returned (.agg #[.bool (upN E M a), .int .i8 (upC E M a), .int .i16 (upE E M a), .int .u64 (upM E M a : Nat)]) ∧ Below w.heap.size w w') := unpack_ok E M h a ha
  have hue := upE_range h a
  have HRP : Hid (∀ w, Calls Oajg.prog 85 #[.agg #[.int .u8 (E : Int), .int .u8 (M : Int)], .int .u8 (mo : Int), .bool (fNeg E M a), .int .i16 (upE E M a + K), .int .u64 (upM E M a : Nat)] w fun e w' => e = .returned (.tuple #[.int .u64 (rfN E M mo (fNeg E M a) (scNum E M a n) (scDen E M a n) : Nat), .int .u8 (rfF E M mo (fNeg E M a) (scNum E M a n) (scDen E M a n) : Nat)]) ∧ Below w.heap.size w w') := fun w => by
    have hm := upM_lt E M a (by have := h.m52; omega)
    have := roundPack_ok E M h mo (fNeg E M a) (upE E M a + K) (upM E M a) hm (by omega) (by omega) w
    rw [hK] at this
    rw [(sc_law h).1, (sc_law h).2, ← hK] at this
    exact this
  have HCN : Hid (upC E M a ≠ 4 → upN E M a = fNeg E M a) := upN_fin
  by_cases c4 : upC E M a = 4
  · have HRN : Hid (scN E M mo a n = nanN E M) := by show _ = _; unfold scN; rw [if_pos c4]
    have HRF : Hid (scF E M mo a n = hdI E M a) := by show _ = _; unfold scF; rw [if_pos c4]
    clear h HCN HIN hK hKr kK HRP hue
    generalize hdI E M a = HD at *
    generalize nanN E M = NA at *
    generalize sgnd E M (fNeg E M a) (infN E M) = IN at *
    generalize vNum E M a = NUM at *
    generalize vDen E M a = DEN at *
    generalize scN E M mo a n = RN at *
    generalize scF E M mo a n = RF at *
    generalize upC E M a = C at *
    generalize upE E M a = VE at *
    generalize upM E M a = VM at *
    generalize upN E M a = NG at *
    have j4 : (C == 4) = true := by simp [c4]
    clear c4
    go_enter Oajg.func32, Oajg.ntmps32
    go_wp2_with fail
    refine Calls.mono (HO.out _) ?_
    rintro _ w1 ⟨rfl, hb⟩
    replace hF := sf_next hF hb
    clear hb
    go_wp2_with fail
    refine Calls.mono (HUP.out _) ?_
    rintro _ w3 ⟨rfl, hb⟩
    replace hF := sf_next hF hb
    have hG := sg4_made 107 hF (.bool NG) (.int .i8 C) (.int .i16 VE) (.int .u64 (VM : Int))
    clear hb hF
    go_wp2_with fail
    go_region_held3 (fun W => (W.cell? ⟨w.heap.size, 0, none⟩ = some (.int .u8 (E : Int)) ∧ W.cell? ⟨w.heap.size, 1, none⟩ = some (.int .u8 (M : Int)) ∧ w.heap.size < W.heap.size ∧ Below w.heap.size w W) ∧ (W.cell? ⟨w3.heap.size, 0, none⟩ = some (.bool NG) ∧ W.cell? ⟨w3.heap.size, 1, none⟩ = some (.int .i8 C) ∧ W.cell? ⟨w3.heap.size, 2, none⟩ = some (.int .i16 VE) ∧ W.cell? ⟨w3.heap.size, 3, none⟩ = some (.int .u64 (VM : Int)) ∧ (∀ o, W.frozen? ⟨w3.heap.size, o, none⟩ = false) ∧ w3.heap.size < W.heap.size))
      ((repeat' (first | with_reducible assumption | with_reducible refine sg4_drew ?_)))
      ((first | (go_at_call 64; refine Calls.mono (HNA.out _) ?_; rintro _ w4 ⟨rfl, hb⟩; have hG4 := sg4_next (by with_reducible assumption) hb; clear hb) | (go_at_call 83; refine Calls.mono (HHE.out _) ?_; rintro _ w5 ⟨rfl, hb⟩; have hG5 := sg4_next (by with_reducible assumption) hb; clear hb)))
    go_wp2_with fail
    go_ret2
    exact ⟨by rw [HRN.out, HRF.out]; rfl, by first | exact hG5.1.2.2.2 | exact hG4.1.2.2.2⟩
  by_cases c3 : upC E M a = 3
  · have HRN : Hid (scN E M mo a n = sgnd E M (fNeg E M a) (infN E M)) := by show _ = _; unfold scN; rw [if_neg c4, if_pos c3]
    have HRF : Hid (scF E M mo a n = 0) := by show _ = _; unfold scF; rw [if_neg c4, if_pos c3]
    have hNG := HCN.out c4
    rw [hNG] at HUP
    clear hNG h HCN HNA HHE hK hKr kK HRP hue
    generalize hdI E M a = HD at *
    generalize nanN E M = NA at *
    generalize sgnd E M (fNeg E M a) (infN E M) = IN at *
    generalize vNum E M a = NUM at *
    generalize vDen E M a = DEN at *
    generalize scN E M mo a n = RN at *
    generalize scF E M mo a n = RF at *
    generalize upC E M a = C at *
    generalize upE E M a = VE at *
    generalize upM E M a = VM at *
    generalize fNeg E M a = NG at *
    have j4 : (C == 4) = false := by simp [c4]
    have j3 : (C == 3) = true := by simp [c3]
    clear c4 c3
    go_enter Oajg.func32, Oajg.ntmps32
    go_wp2_with fail
    refine Calls.mono (HO.out _) ?_
    rintro _ w1 ⟨rfl, hb⟩
    replace hF := sf_next hF hb
    clear hb
    go_wp2_with fail
    refine Calls.mono (HUP.out _) ?_
    rintro _ w3 ⟨rfl, hb⟩
    replace hF := sf_next hF hb
    have hG := sg4_made 107 hF (.bool NG) (.int .i8 C) (.int .i16 VE) (.int .u64 (VM : Int))
    clear hb hF
    go_wp2_with fail
    refine Calls.mono (HIN.out _) ?_
    rintro _ w4 ⟨rfl, hb⟩
    have hG4 := sg4_next hG hb
    clear hb
    go_wp2_with fail
    go_ret2
    exact ⟨by rw [HRN.out, HRF.out]; rfl, hG4.1.2.2.2⟩
  have HRN : Hid (scN E M mo a n = rfN E M mo (fNeg E M a) (scNum E M a n) (scDen E M a n)) := by show _ = _; unfold scN; rw [if_neg c4, if_neg c3]
  have HRF : Hid (scF E M mo a n = (rfF E M mo (fNeg E M a) (scNum E M a n) (scDen E M a n) : Nat)) := by show _ = _; unfold scF; rw [if_neg c4, if_neg c3]
  have hNG := HCN.out c4
  rw [hNG] at HUP
  clear hNG h HCN HNA HHE HIN
  generalize rfN E M mo (fNeg E M a) (scNum E M a n) (scDen E M a n) = ZN at *
  generalize rfF E M mo (fNeg E M a) (scNum E M a n) (scDen E M a n) = ZF at *
  generalize scN E M mo a n = RN at *
  generalize scF E M mo a n = RF at *
  rw [← hK] at hKr
  clear hK
  obtain ⟨hKr1, hKr2⟩ := hKr
  obtain ⟨hue1, hue2⟩ := hue
  generalize upC E M a = C at *
  generalize upE E M a = VE at *
  generalize upM E M a = VM at *
  generalize fNeg E M a = NG at *
  have j4 : (C == 4) = false := by simp [c4]
  have j3 : (C == 3) = false := by simp [c3]
  clear c4 c3
  have hK3 : (n < -5000 ∧ K = -5000) ∨ (5000 < n ∧ K = 5000) ∨ (-5000 ≤ n ∧ n ≤ 5000 ∧ K = n) := by omega
  clear kK hKr1 hKr2
  rcases hK3 with ⟨hn1, rfl⟩ | ⟨hn1, rfl⟩ | ⟨hn1, hn2, rfl⟩
  all_goals
    go_enter Oajg.func32, Oajg.ntmps32
    go_wp2_with fail
    refine Calls.mono (HO.out _) ?_
    rintro _ w1 ⟨rfl, hb⟩
    replace hF := sf_next hF hb
    clear hb
    go_wp2_with fail
    refine Calls.mono (HUP.out _) ?_
    rintro _ w3 ⟨rfl, hb⟩
    replace hF := sf_next hF hb
    have hG := sg4_made 107 hF (.bool NG) (.int .i8 C) (.int .i16 VE) (.int .u64 (VM : Int))
    clear hb hF
    go_wp2_with fail
    refine Calls.mono (HRP.out _) ?_
    rintro _ w4 ⟨rfl, hb⟩
    have hG4 := sg4_next hG hb
    clear hb
    go_wp2_with fail
    go_ret2
    exact ⟨by rw [HRN.out, HRF.out]; rfl, hG4.1.2.2.2⟩

set_option maxRecDepth 100000 in
set_option maxHeartbeats 1000000 in
theorem scaleFlagsX_not (E M : Nat) (h : okB E M = false) (mo a : Nat) (n : Int) (w : World) :
    Calls Oajg.prog 18 #[.agg #[.int .u8 (E : Int), .int .u8 (M : Int)], .int .u8 (mo : Int), .int .u64 (a : Int), .int .i64 n] w fun e w' => e = .returned (.tuple #[.int .u64 0, .int .u8 0]) ∧ Below w.heap.size w w' := by
  have hF := sf_box w E M
  have HO : Hid (∀ w, Calls Oajg.prog 17 #[.agg #[.int .u8 (E : Int), .int .u8 (M : Int)]] w fun e w' => e = .returned (.bool false) ∧ Below w.heap.size w w') := ok_not h
  clear h
  go_enter Oajg.func18, Oajg.ntmps18
  go_wp2_with fail
  refine Calls.mono (HO.out _) ?_
  rintro _ w1 ⟨rfl, hb⟩
  replace hF := sf_next hF hb
  clear hb
  go_wp2_with fail
  go_ret2
  exact ⟨rfl, hF.2.2.2⟩

set_option maxRecDepth 100000 in
set_option maxHeartbeats 4000000 in
theorem scaleFlagsX_ok (E M : Nat) (h : FOk E M) (mo a : Nat) (ha : a < 18446744073709551616) (n : Int) (w : World) :
    Calls Oajg.prog 18 #[.agg #[.int .u8 (E : Int), .int .u8 (M : Int)], .int .u8 (mo : Int), .int .u64 (a : Int), .int .i64 n] w fun e w' => e = .returned (.tuple #[.int .u64 (scN E M mo a n : Nat), .int .u8 (scF E M mo a n)]) ∧ Below w.heap.size w w' := by
  have hF := sf_box w E M
  have HO : Hid (∀ w, Calls Oajg.prog 17 #[.agg #[.int .u8 (E : Int), .int .u8 (M : Int)]] w fun e w' => e = .returned (.bool true) ∧ Below w.heap.size w w') := ok_yes h
  have HNA : Hid (∀ w, Calls Oajg.prog 64 #[.agg #[.int .u8 (E : Int), .int .u8 (M : Int)]] w fun e w' => e = .returned (.int .u64 (nanN E M : Nat)) ∧ Below w.heap.size w w') := nan_ok E M h
  have HHE : Hid (∀ w, Calls Oajg.prog 65 #[.agg #[.int .u8 (E : Int), .int .u8 (M : Int)], .int .u64 (a : Int), .int .u64 (a : Int)] w fun e w' => e = .returned (.int .u8 (hdI E M a)) ∧ Below w.heap.size w w') := heardX_ok E M h a a ha ha
  have HIN : Hid (∀ w, Calls Oajg.prog 84 #[.agg #[.int .u8 (E : Int), .int .u8 (M : Int)], .bool (fNeg E M a)] w fun e w' => e = .returned (.int .u64 (sgnd E M (fNeg E M a) (infN E M) : Nat)) ∧ Below w.heap.size w w') := inf_ok E M h (fNeg E M a)
  have hKr := scK_range n
  obtain ⟨K, hK⟩ : ∃ K, K = scK n := ⟨_, rfl⟩
  have kK : min (max n (-5000)) 5000 = K := hK.symm
  have HUP : Hid (∀ w, Calls Oajg.prog 63 #[.agg #[.int .u8 (E : Int), .int .u8 (M : Int)], .int .u64 (a : Int)] w fun e w' => ∃ a1 k1 c1 a2 k2 c2, e = .returned (.agg #[.int .u64 ((a % 2 ^ (E + M + 1) : Nat) : Int), .bool (fNeg E M a), .int .i8 (upC E M a), .bool (vN E M a), .slice a1 k1 c1, .slice a2 k2 c2]) ∧ NatIs 2050 w' (.slice a1 k1 c1) (vNum E M a) ∧ NatIs 2050 w' (.slice a2 k2 c2) (vDen E M a) ∧ Below w.heap.size w w') := opened E M h a ha
  have HDN : Hid (scDen E M a n ≠ 0) := scDen_ne E M a n
  have HFO : Hid (FOk E M) := h
  have HBI : Hid (upC E M a = 3 → a % 2 ^ (E + M + 1) = sgnd E M (fNeg E M a) (infN E M)) := bits_inf h
  have HCN : Hid (upC E M a ≠ 4 → upN E M a = fNeg E M a) := upN_fin
  by_cases c4 : upC E M a = 4
  · have HRN : Hid (scN E M mo a n = nanN E M) := by show _ = _; unfold scN; rw [if_pos c4]
    have HRF : Hid (scF E M mo a n = hdI E M a) := by show _ = _; unfold scF; rw [if_pos c4]
    clear h HCN HIN hK hKr kK HDN HFO HBI
    generalize hdI E M a = HD at *
    generalize nanN E M = NA at *
    generalize sgnd E M (fNeg E M a) (infN E M) = IN at *
    generalize vNum E M a = NUM at *
    generalize vDen E M a = DEN at *
    generalize scN E M mo a n = RN at *
    generalize scF E M mo a n = RF at *
    generalize upC E M a = C at *
    generalize vN E M a = VN at *
    generalize (a % 2 ^ (E + M + 1)) = XX at *
    generalize fNeg E M a = NG at *
    have j4 : (C == 4) = true := by simp [c4]
    clear c4
    go_enter Oajg.func18, Oajg.ntmps18
    go_wp2_with fail
    refine Calls.mono (HO.out _) ?_
    rintro _ w1 ⟨rfl, hb⟩
    replace hF := sf_next hF hb
    clear hb
    go_wp2_with fail
    refine Calls.mono (HUP.out _) ?_
    rintro _ w3 ⟨a1, k1, c1, a2, k2, c2, rfl, hN1, hN2, hb⟩
    replace hF := sf_next hF hb
    have hG := sg6_made 98 hF (.int .u64 (XX : Int)) (.bool NG) (.int .i8 C) (.bool VN) (.slice a1 k1 c1) (.slice a2 k2 c2)
    have HN1 : Hid (NatIs 2050 (w3.alloc (.cells #[.int .u64 (XX : Int), .bool NG, .int .i8 C, .bool VN, .slice a1 k1 c1, .slice a2 k2 c2] 98)) (.slice a1 k1 c1) NUM) := hN1.kept ((Below.refl _ _).alloc (Nat.le_refl _) _)
    have HN2 : Hid (NatIs 2050 (w3.alloc (.cells #[.int .u64 (XX : Int), .bool NG, .int .i8 C, .bool VN, .slice a1 k1 c1, .slice a2 k2 c2] 98)) (.slice a2 k2 c2) DEN) := hN2.kept ((Below.refl _ _).alloc (Nat.le_refl _) _)
    clear hb hF hN1 hN2
    go_wp2_with fail
    go_region_held3 (fun W => (W.cell? ⟨w.heap.size, 0, none⟩ = some (.int .u8 (E : Int)) ∧ W.cell? ⟨w.heap.size, 1, none⟩ = some (.int .u8 (M : Int)) ∧ w.heap.size < W.heap.size ∧ Below w.heap.size w W) ∧ (W.cell? ⟨w3.heap.size, 0, none⟩ = some (.int .u64 (XX : Int)) ∧ W.cell? ⟨w3.heap.size, 1, none⟩ = some (.bool NG) ∧ W.cell? ⟨w3.heap.size, 2, none⟩ = some (.int .i8 C) ∧ W.cell? ⟨w3.heap.size, 3, none⟩ = some (.bool VN) ∧ W.cell? ⟨w3.heap.size, 4, none⟩ = some (.slice a1 k1 c1) ∧ W.cell? ⟨w3.heap.size, 5, none⟩ = some (.slice a2 k2 c2) ∧ (∀ o, W.frozen? ⟨w3.heap.size, o, none⟩ = false) ∧ w3.heap.size < W.heap.size))
      ((repeat' (first | with_reducible assumption | with_reducible refine sg6_drew ?_)))
      ((first | (go_at_call 64; refine Calls.mono (HNA.out _) ?_; rintro _ w4 ⟨rfl, hb⟩; have hG4 := sg6_next (by with_reducible assumption) hb; clear hb) | (go_at_call 65; refine Calls.mono (HHE.out _) ?_; rintro _ w5 ⟨rfl, hb⟩; have hG5 := sg6_next (by with_reducible assumption) hb; clear hb)))
    go_wp2_with fail
    go_ret2
    exact ⟨by rw [HRN.out, HRF.out]; rfl, by first | exact hG5.1.2.2.2 | exact hG4.1.2.2.2⟩
  by_cases c3 : upC E M a = 3
  · have HRN : Hid (scN E M mo a n = sgnd E M (fNeg E M a) (infN E M)) := by show _ = _; unfold scN; rw [if_neg c4, if_pos c3]
    have HRF : Hid (scF E M mo a n = 0) := by show _ = _; unfold scF; rw [if_neg c4, if_pos c3]
    have hBI := HBI.out c3
    rw [hBI] at HUP
    clear hBI HBI h HCN HNA HHE HIN hK hKr kK HDN HFO
    generalize sgnd E M (fNeg E M a) (infN E M) = XX at *
    generalize vNum E M a = NUM at *
    generalize vDen E M a = DEN at *
    generalize scN E M mo a n = RN at *
    generalize scF E M mo a n = RF at *
    generalize upC E M a = C at *
    generalize vN E M a = VN at *
    generalize fNeg E M a = NG at *
    have j4 : (C == 4) = false := by simp [c4]
    have j3 : (C == 3) = true := by simp [c3]
    clear c4 c3
    go_enter Oajg.func18, Oajg.ntmps18
    go_wp2_with fail
    refine Calls.mono (HO.out _) ?_
    rintro _ w1 ⟨rfl, hb⟩
    replace hF := sf_next hF hb
    clear hb
    go_wp2_with fail
    refine Calls.mono (HUP.out _) ?_
    rintro _ w3 ⟨a1, k1, c1, a2, k2, c2, rfl, hN1, hN2, hb⟩
    replace hF := sf_next hF hb
    have hG := sg6_made 98 hF (.int .u64 (XX : Int)) (.bool NG) (.int .i8 C) (.bool VN) (.slice a1 k1 c1) (.slice a2 k2 c2)
    have HN1 : Hid (NatIs 2050 (w3.alloc (.cells #[.int .u64 (XX : Int), .bool NG, .int .i8 C, .bool VN, .slice a1 k1 c1, .slice a2 k2 c2] 98)) (.slice a1 k1 c1) NUM) := hN1.kept ((Below.refl _ _).alloc (Nat.le_refl _) _)
    have HN2 : Hid (NatIs 2050 (w3.alloc (.cells #[.int .u64 (XX : Int), .bool NG, .int .i8 C, .bool VN, .slice a1 k1 c1, .slice a2 k2 c2] 98)) (.slice a2 k2 c2) DEN) := hN2.kept ((Below.refl _ _).alloc (Nat.le_refl _) _)
    clear hb hF hN1 hN2
    go_wp2_with fail
    go_ret2
    exact ⟨by rw [HRN.out, HRF.out]; rfl, hG.1.2.2.2⟩
  have HRN : Hid (scN E M mo a n = rfN E M mo (fNeg E M a) (scNum E M a n) (scDen E M a n)) := by show _ = _; unfold scN; rw [if_neg c4, if_neg c3]
  have HRF : Hid (scF E M mo a n = (rfF E M mo (fNeg E M a) (scNum E M a n) (scDen E M a n) : Nat)) := by show _ = _; unfold scF; rw [if_neg c4, if_neg c3]
  have HSN : Hid (vNum E M a * 2 ^ K.toNat = scNum E M a n) := by show _ = _; unfold scNum; rw [hK]
  have HSD : Hid (vDen E M a * 2 ^ (-K).toNat = scDen E M a n) := by show _ = _; unfold scDen; rw [hK]
  clear HBI h HCN HNA HHE HIN
  generalize vNum E M a = NUM at *
  generalize vDen E M a = DEN at *
  generalize scNum E M a n = SNUM at *
  generalize scDen E M a n = SDEN at *
  generalize scN E M mo a n = RN at *
  generalize scF E M mo a n = RF at *
  rw [← hK] at hKr
  clear hK
  obtain ⟨hKr1, hKr2⟩ := hKr
  generalize upC E M a = C at *
  generalize vN E M a = VN at *
  generalize (a % 2 ^ (E + M + 1)) = XX at *
  generalize fNeg E M a = NG at *
  have j4 : (C == 4) = false := by simp [c4]
  have j3 : (C == 3) = false := by simp [c3]
  clear c4 c3
  have hK3 : (n < -5000 ∧ K = -5000) ∨ (5000 < n ∧ K = 5000) ∨ (-5000 ≤ n ∧ n ≤ 5000 ∧ K = n) := by omega
  have HSH : Hid (∀ W a1 k1 c1 a2 k2 c2, NatIs 2050 W (.slice a1 k1 c1) NUM → NatIs 2050 W (.slice a2 k2 c2) DEN → Calls Oajg.prog 66 #[.slice a1 k1 c1, .slice a2 k2 c2, .int .i64 K] W fun e w' => ∃ b1 l1 e1 b2 l2 e2, e = .returned (.tuple #[.slice b1 l1 e1, .slice b2 l2 e2]) ∧ NatIs (2050 + 2048) w' (.slice b1 l1 e1) SNUM ∧ NatIs (2050 + 2048) w' (.slice b2 l2 e2) SDEN ∧ Below W.heap.size W w') := fun W a1 k1 c1 a2 k2 c2 h1 h2 => by
    have := shift_ok 2050 NUM DEN a1 a2 k1 c1 k2 c2 K W h1 h2 (by decide) (by omega) (by omega)
    rw [HSN.out, HSD.out] at this
    exact this
  clear kK HSN HSD hKr1 hKr2
  rcases hK3 with ⟨hn1, rfl⟩ | ⟨hn1, rfl⟩ | ⟨hn1, hn2, rfl⟩
  all_goals
    go_enter Oajg.func18, Oajg.ntmps18
    go_wp2_with fail
    refine Calls.mono (HO.out _) ?_
    rintro _ w1 ⟨rfl, hb⟩
    replace hF := sf_next hF hb
    clear hb
    go_wp2_with fail
    refine Calls.mono (HUP.out _) ?_
    rintro _ w3 ⟨a1, k1, c1, a2, k2, c2, rfl, hN1, hN2, hb⟩
    replace hF := sf_next hF hb
    have hG := sg6_made 98 hF (.int .u64 (XX : Int)) (.bool NG) (.int .i8 C) (.bool VN) (.slice a1 k1 c1) (.slice a2 k2 c2)
    have HN1 : Hid (NatIs 2050 (w3.alloc (.cells #[.int .u64 (XX : Int), .bool NG, .int .i8 C, .bool VN, .slice a1 k1 c1, .slice a2 k2 c2] 98)) (.slice a1 k1 c1) NUM) := hN1.kept ((Below.refl _ _).alloc (Nat.le_refl _) _)
    have HN2 : Hid (NatIs 2050 (w3.alloc (.cells #[.int .u64 (XX : Int), .bool NG, .int .i8 C, .bool VN, .slice a1 k1 c1, .slice a2 k2 c2] 98)) (.slice a2 k2 c2) DEN) := hN2.kept ((Below.refl _ _).alloc (Nat.le_refl _) _)
    clear hb hF hN1 hN2
    go_wp2_with fail
    refine Calls.mono (HSH.out _ _ _ _ _ _ _ HN1.out HN2.out) ?_
    rintro _ w4 ⟨b1, l1, e1, b2, l2, e2, rfl, hM1, hM2, hb⟩
    have hG4 := sg6_next hG hb
    have HRX : Hid (Calls Oajg.prog 67 #[.agg #[.int .u8 (E : Int), .int .u8 (M : Int)], .int .u8 (mo : Int), .agg #[.bool NG, .slice b1 l1 e1, .slice b2 l2 e2]] w4 fun e w' => e = .returned (.tuple #[.int .u64 (rfN E M mo NG SNUM SDEN : Nat), .int .u8 (rfF E M mo NG SNUM SDEN : Nat)]) ∧ Below w4.heap.size w4 w') := roundFlags_ok E M HFO.out mo NG (2050 + 2048) SNUM SDEN b1 b2 l1 e1 l2 e2 w4 hM1 hM2 (by decide) HDN.out
    clear hb hG hM1 hM2 HSH
    generalize rfN E M mo NG SNUM SDEN = ZN at *
    generalize rfF E M mo NG SNUM SDEN = ZF at *
    go_wp2_with fail
    refine Calls.mono HRX.out ?_
    rintro _ w5 ⟨rfl, hb⟩
    have hG5 := sg6_next hG4 hb
    clear hb
    go_wp2_with fail
    go_ret2
    exact ⟨by rw [HRN.out, HRF.out]; rfl, hG5.1.2.2.2⟩

end Go.Proofs.Ygcoaj
