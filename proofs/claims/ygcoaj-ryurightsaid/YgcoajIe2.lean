/-
  PLAIN and WALKS: ieee.width, ieee.subnormal.
-/
import Derived.Test.YgcoajIe1
set_option linter.unusedVariables false
set_option linter.unusedSimpArgs false
namespace Go.Proofs.Ygcoaj
open Go.RowKit

/-- the number of bits of x, its leading zeros left out -/
def bitLen (x : Nat) : Nat := if x = 0 then 0 else Nat.log2 x + 1

theorem bitLen_lt (x : Nat) : x < 2 ^ bitLen x := by
  unfold bitLen; split
  · next h => subst h; decide
  · exact Nat.lt_log2_self
theorem bitLen_le {x : Nat} (h : x ≠ 0) : 2 ^ (bitLen x - 1) ≤ x := by
  unfold bitLen; rw [if_neg h]; exact Nat.log2_self_le h
theorem bitLen_uniq {x n : Nat} (h1 : 2 ^ n ≤ x) (h2 : x < 2 ^ (n + 1)) : bitLen x = n + 1 := by
  have h0 : x ≠ 0 := by have := pow2_pos n; omega
  have a := bitLen_lt x
  have b := bitLen_le h0
  have c1 : n < bitLen x := by
    by_cases hc : n < bitLen x
    · exact hc
    · have : 2 ^ bitLen x ≤ 2 ^ n := Nat.pow_le_pow_right (by decide) (by omega)
      omega
  have c2 : bitLen x - 1 < n + 1 := by
    by_cases hc : bitLen x - 1 < n + 1
    · exact hc
    · have : 2 ^ (n + 1) ≤ 2 ^ (bitLen x - 1) := Nat.pow_le_pow_right (by decide) (by omega)
      omega
  omega
theorem bitLen_le_of_lt {x n : Nat} (h : x < 2 ^ n) : bitLen x ≤ n := by
  by_cases h0 : x = 0
  · subst h0; simp [bitLen]
  · have b := bitLen_le h0
    by_cases hc : bitLen x ≤ n
    · exact hc
    · have : 2 ^ n ≤ 2 ^ (bitLen x - 1) := Nat.pow_le_pow_right (by decide) (by omega)
      omega
theorem bitLen_pos {x : Nat} (h : x ≠ 0) : 1 ≤ bitLen x := by unfold bitLen; rw [if_neg h]; omega

/-- the top j of L bits of x are set -/
structure TopSet (L j x : Nat) : Prop where
  lt : x < 2 ^ L
  set : ∀ i, i < L → L ≤ i + j → x.testBit i = true

theorem topSet_one {x : Nat} (h : x ≠ 0) : TopSet (bitLen x) 1 x := by
  refine ⟨bitLen_lt x, fun i h1 h2 => ?_⟩
  have hi : i = bitLen x - 1 := by omega
  subst hi
  refine Nat.testBit_of_two_pow_le_and_two_pow_add_one_gt (bitLen_le h) ?_
  rw [Nat.sub_add_cancel (bitLen_pos h)]; exact bitLen_lt x

theorem topSet_step {L j x : Nat} (h : TopSet L j x) : TopSet L (2 * j) (x ||| x / 2 ^ j) := by
  refine ⟨Nat.or_lt_two_pow h.lt (Nat.lt_of_le_of_lt (Nat.div_le_self _ _) h.lt), fun i h1 h2 => ?_⟩
  rw [Nat.testBit_or, ← Nat.shiftRight_eq_div_pow, Nat.testBit_shiftRight]
  by_cases hc : L ≤ i + j
  · rw [h.set i h1 hc]; rfl
  · rw [h.set (j + i) (by omega) (by omega)]; simp

theorem topSet_all {L j x : Nat} (h : TopSet L j x) (hj : L ≤ j) : x = 2 ^ L - 1 := by
  apply Nat.eq_of_testBit_eq
  intro i
  rw [Nat.testBit_two_pow_sub_one]
  by_cases hi : i < L
  · rw [h.set i hi (by omega)]; simp [hi]
  · rw [Nat.testBit_lt_two_pow (Nat.lt_of_lt_of_le h.lt (Nat.pow_le_pow_right (by decide) (by omega)))]; simp [hi]

def smear1 (x : Nat) : Nat := x ||| x / 2
def smear2 (x : Nat) : Nat := x ||| x / 4
def smear4 (x : Nat) : Nat := x ||| x / 16
def smear8 (x : Nat) : Nat := x ||| x / 256
def smear16 (x : Nat) : Nat := x ||| x / 65536
def smear32 (x : Nat) : Nat := x ||| x / 4294967296
def smear (x : Nat) : Nat := smear32 (smear16 (smear8 (smear4 (smear2 (smear1 x)))))

theorem smear_eq (x : Nat) (h : x < 18446744073709551616) : smear x = 2 ^ bitLen x - 1 := by
  by_cases h0 : x = 0
  · subst h0; decide
  · have hb : bitLen x ≤ 64 := bitLen_le_of_lt (n := 64) h
    exact topSet_all (topSet_step (topSet_step (topSet_step (topSet_step (topSet_step (topSet_step (topSet_one h0))))))) hb

theorem or_u64 (a b : Nat) (ha : a < 18446744073709551616) (hb : b < 18446744073709551616) : a ||| b < 18446744073709551616 := Nat.or_lt_two_pow (n := 64) ha hb

def pop1 (x : Nat) : Nat := x - (x / 2 &&& 6148914691236517205)
def pop2 (x : Nat) : Nat := (x &&& 3689348814741910323) + (x / 4 &&& 3689348814741910323)
def pop3 (x : Nat) : Nat := (x + x / 16) &&& 1085102592571150095
def pop4 (x : Nat) : Nat := x * 72340172838076673 % 18446744073709551616 / 72057594037927936

theorem pop_all : ∀ L : Fin 65, pop4 (pop3 (pop2 (pop1 (2 ^ L.val - 1)))) = L.val := by decide

theorem pop2_le (x : Nat) : pop2 x ≤ 7378697629483820646 := by
  have h1 : x &&& 3689348814741910323 ≤ 3689348814741910323 := Nat.and_le_right
  have h2 : x / 4 &&& 3689348814741910323 ≤ 3689348814741910323 := Nat.and_le_right
  unfold pop2; omega
theorem pop3_le (x : Nat) : pop3 x ≤ 1085102592571150095 := Nat.and_le_right

theorem smear_step (x c : Nat) (hx : x < 18446744073709551616) : bits .or .u64 (x : Int) ((x : Int) / (c : Int)) = ((x ||| x / c : Nat) : Int) ∧ x ||| x / c < 18446744073709551616 := by
  have hy : x / c ≤ x := Nat.div_le_self _ _
  rw [← Int.natCast_ediv]
  exact ⟨bits_or_u64_nat _ _ hx (by omega), or_u64 _ _ hx (by omega)⟩
theorem and_step (x c : Nat) (hx : x < 18446744073709551616) (hc : c < 18446744073709551616) : bits .and .u64 (x : Int) (c : Int) = ((x &&& c : Nat) : Int) := bits_and_u64_nat _ _ hx hc
theorem and_div (x d c : Nat) (hx : x < 18446744073709551616) (hc : c < 18446744073709551616) : bits .and .u64 ((x : Int) / (d : Int)) (c : Int) = ((x / d &&& c : Nat) : Int) := by
  have hy : x / d ≤ x := Nat.div_le_self _ _
  rw [← Int.natCast_ediv]; exact bits_and_u64_nat _ _ (by omega) hc

set_option maxRecDepth 100000 in
set_option maxHeartbeats 1000000 in
theorem width_ok (x : Nat) (hx : x < 18446744073709551616) (w : World) :
    Calls Oajg.prog 174 #[.int .u64 (x : Int)] w fun e w' => e = .returned (.int .u8 (bitLen x : Nat)) ∧ w' = w := by
  have hL : bitLen x ≤ 64 := bitLen_le_of_lt (n := 64) hx
  have hall := pop_all ⟨bitLen x, by omega⟩
  have hs := smear_eq x hx
  obtain ⟨x1, e1⟩ : ∃ y, smear1 x = y := ⟨_, rfl⟩
  obtain ⟨x2, e2⟩ : ∃ y, smear2 x1 = y := ⟨_, rfl⟩
  obtain ⟨x3, e3⟩ : ∃ y, smear4 x2 = y := ⟨_, rfl⟩
  obtain ⟨x4, e4⟩ : ∃ y, smear8 x3 = y := ⟨_, rfl⟩
  obtain ⟨x5, e5⟩ : ∃ y, smear16 x4 = y := ⟨_, rfl⟩
  obtain ⟨x6, e6⟩ : ∃ y, smear32 x5 = y := ⟨_, rfl⟩
  unfold smear at hs
  rw [e1, e2, e3, e4, e5, e6] at hs
  obtain ⟨y1, f1⟩ : ∃ y, pop1 x6 = y := ⟨_, rfl⟩
  obtain ⟨y2, f2⟩ : ∃ y, pop2 y1 = y := ⟨_, rfl⟩
  obtain ⟨y3, f3⟩ : ∃ y, pop3 y2 = y := ⟨_, rfl⟩
  simp only [← hs] at hall
  rw [f1, f2, f3] at hall
  have a1 : bits .or .u64 (x : Int) ((x : Int) / 2) = (x1 : Int) := by have := (smear_step x 2 hx).1; rw [show (x ||| x / 2) = x1 from e1] at this; exact this
  have b1 : x1 < 18446744073709551616 := by rw [← e1]; exact (smear_step x 2 hx).2
  have a2 : bits .or .u64 (x1 : Int) ((x1 : Int) / 4) = (x2 : Int) := by have := (smear_step x1 4 b1).1; rw [show (x1 ||| x1 / 4) = x2 from e2] at this; exact this
  have b2 : x2 < 18446744073709551616 := by rw [← e2]; exact (smear_step x1 4 b1).2
  have a3 : bits .or .u64 (x2 : Int) ((x2 : Int) / 16) = (x3 : Int) := by have := (smear_step x2 16 b2).1; rw [show (x2 ||| x2 / 16) = x3 from e3] at this; exact this
  have b3 : x3 < 18446744073709551616 := by rw [← e3]; exact (smear_step x2 16 b2).2
  have a4 : bits .or .u64 (x3 : Int) ((x3 : Int) / 256) = (x4 : Int) := by have := (smear_step x3 256 b3).1; rw [show (x3 ||| x3 / 256) = x4 from e4] at this; exact this
  have b4 : x4 < 18446744073709551616 := by rw [← e4]; exact (smear_step x3 256 b3).2
  have a5 : bits .or .u64 (x4 : Int) ((x4 : Int) / 65536) = (x5 : Int) := by have := (smear_step x4 65536 b4).1; rw [show (x4 ||| x4 / 65536) = x5 from e5] at this; exact this
  have b5 : x5 < 18446744073709551616 := by rw [← e5]; exact (smear_step x4 65536 b4).2
  have a6 : bits .or .u64 (x5 : Int) ((x5 : Int) / 4294967296) = (x6 : Int) := by have := (smear_step x5 4294967296 b5).1; rw [show (x5 ||| x5 / 4294967296) = x6 from e6] at this; exact this
  have b6 : x6 < 18446744073709551616 := by rw [← e6]; exact (smear_step x5 4294967296 b5).2
  have g1 : bits .and .u64 ((x6 : Int) / 2) 6148914691236517205 = ((x6 / 2 &&& 6148914691236517205 : Nat) : Int) := and_div x6 2 6148914691236517205 b6 (by decide)
  have g2 : IntKind.u64.wrap ((x6 : Int) - ((x6 / 2 &&& 6148914691236517205 : Nat) : Int)) = (y1 : Int) := by
    have : x6 / 2 &&& 6148914691236517205 ≤ x6 / 2 := Nat.and_le_left
    refine wrap64' ?_ ?_
    · rw [← f1]; unfold pop1; omega
    · rw [← f1]; unfold pop1; omega
  have b7 : y1 < 18446744073709551616 := by rw [← f1]; unfold pop1; omega
  have g3 : bits .and .u64 (y1 : Int) 3689348814741910323 = ((y1 &&& 3689348814741910323 : Nat) : Int) := and_step y1 3689348814741910323 b7 (by decide)
  have g4 : bits .and .u64 ((y1 : Int) / 4) 3689348814741910323 = ((y1 / 4 &&& 3689348814741910323 : Nat) : Int) := and_div y1 4 3689348814741910323 b7 (by decide)
  have b8 : y2 ≤ 7378697629483820646 := by rw [← f2]; exact pop2_le _
  have g5 : IntKind.u64.wrap (((y1 &&& 3689348814741910323 : Nat) : Int) + ((y1 / 4 &&& 3689348814741910323 : Nat) : Int)) = (y2 : Int) := wrap64' (by rw [← f2]; unfold pop2; push_cast; rfl) (by omega)
  have g6 : bits .and .u64 ((y2 : Int) + (y2 : Int) / 16) 1085102592571150095 = (y3 : Int) := by
    have := and_step (y2 + y2 / 16) 1085102592571150095 (by omega) (by decide)
    rw [← f3]; exact this
  have b9 : y3 ≤ 1085102592571150095 := by rw [← f3]; exact pop3_le _
  have g7 : IntKind.u64.wrap ((y3 : Int) * 72340172838076673) / 72057594037927936 = (bitLen x : Int) := by
    have h7 : y3 * 72340172838076673 % 18446744073709551616 / 72057594037927936 = bitLen x := hall
    rw [IntKind.wrap_u64, ← h7]; rfl
  generalize bitLen x = L at *
  clear hall hs e1 e2 e3 e4 e5 e6 f1 f2 f3
  generalize (x6 / 2 &&& 6148914691236517205 : Nat) = z1 at *
  generalize (y1 &&& 3689348814741910323 : Nat) = z2 at *
  generalize (y1 / 4 &&& 3689348814741910323 : Nat) = z3 at *
  have a1' : IntKind.u64.wrap ((y2 : Int) + (y2 : Int) / 16) = (y2 : Int) + (y2 : Int) / 16 := by rw [IntKind.wrap_u64]; omega
  go_enter Oajg.func174, Oajg.ntmps174
  go_wp2_with fail
  go_ret
  exact ⟨rfl, rfl⟩

/-- 2^(E-1) - 1 -/
def biasN (E : Nat) : Nat := 2 ^ (E - 1) - 1
theorem biasN_le {E : Nat} (h : E ≤ 11) : biasN E ≤ 1023 := by
  have : 2 ^ (E - 1) ≤ 2 ^ 10 := Nat.pow_le_pow_right (by decide) (by omega)
  unfold biasN; omega
theorem biasN_pos {E : Nat} (h : 2 ≤ E) : 1 ≤ biasN E := by
  have : 2 ^ 1 ≤ 2 ^ (E - 1) := Nat.pow_le_pow_right (by decide) (by omega)
  unfold biasN; omega

theorem boxP (W : World) : Below W.heap.size W (W.alloc (.cells #[.bool false, .int .i8 0, .int .i16 0, .int .u64 0] 107)) := (Below.refl _ _).alloc (Nat.le_refl _) _
theorem sf_store {w W : World} {b E M : Nat} (h : W.cell? ⟨b, 0, none⟩ = some (.int .u8 (E : Int)) ∧ W.cell? ⟨b, 1, none⟩ = some (.int .u8 (M : Int)) ∧ b < W.heap.size ∧ Below w.heap.size w W) {p : Addr} {u : Value} (hp : w.heap.size ≤ p.block ∧ b ≠ p.block) :
    (W.setCell p u).cell? ⟨b, 0, none⟩ = some (.int .u8 (E : Int)) ∧ (W.setCell p u).cell? ⟨b, 1, none⟩ = some (.int .u8 (M : Int)) ∧ b < (W.setCell p u).heap.size ∧ Below w.heap.size w (W.setCell p u) := by
  have e : ∀ o, (W.setCell p u).cell? ⟨b, o, none⟩ = W.cell? ⟨b, o, none⟩ := fun o => World.cell?_of_block (Below.heap_setCell W p u b hp.2)
  exact ⟨(e 0).trans h.1, (e 1).trans h.2.1, by rw [World.size_setCell]; exact h.2.2.1, h.2.2.2.setCell hp.1 u⟩
theorem sf_store4 {w W : World} {b E M : Nat} (h : W.cell? ⟨b, 0, none⟩ = some (.int .u8 (E : Int)) ∧ W.cell? ⟨b, 1, none⟩ = some (.int .u8 (M : Int)) ∧ b < W.heap.size ∧ Below w.heap.size w W) {n : Nat} {u0 u1 u2 u3 : Value} (hp : w.heap.size ≤ n ∧ b ≠ n) :
    ((((W.setCell ⟨n, 0, none⟩ u0).setCell ⟨n, 1, none⟩ u1).setCell ⟨n, 2, none⟩ u2).setCell ⟨n, 3, none⟩ u3).cell? ⟨b, 0, none⟩ = some (.int .u8 (E : Int)) ∧ ((((W.setCell ⟨n, 0, none⟩ u0).setCell ⟨n, 1, none⟩ u1).setCell ⟨n, 2, none⟩ u2).setCell ⟨n, 3, none⟩ u3).cell? ⟨b, 1, none⟩ = some (.int .u8 (M : Int)) ∧ b < ((((W.setCell ⟨n, 0, none⟩ u0).setCell ⟨n, 1, none⟩ u1).setCell ⟨n, 2, none⟩ u2).setCell ⟨n, 3, none⟩ u3).heap.size ∧ Below w.heap.size w ((((W.setCell ⟨n, 0, none⟩ u0).setCell ⟨n, 1, none⟩ u1).setCell ⟨n, 2, none⟩ u2).setCell ⟨n, 3, none⟩ u3) :=
  sf_store (sf_store (sf_store (sf_store h hp) hp) hp) hp

set_option maxRecDepth 100000 in
set_option maxHeartbeats 2000000 in
theorem subnormal_ok (E M : Nat) (h : FOk E M) (neg : Bool) (m : Nat) (hm0 : m ≠ 0) (hm : m < 2 ^ M) (w : World) :
    Calls Oajg.prog 128 #[.agg #[.int .u8 (E : Int), .int .u8 (M : Int)], .bool neg, .int .u64 (m : Int)] w fun e w' =>
      e = .returned (.agg #[.bool neg, .int .i8 1, .int .i16 (1 - (biasN E : Int) - M - ((M + 1 - bitLen m : Nat) : Int)), .int .u64 ((m * 2 ^ (M + 1 - bitLen m) : Nat) : Int)]) ∧ Below w.heap.size w w' := by
  have HBI : Hid (∀ w, Calls Oajg.prog 129 #[.agg #[.int .u8 (E : Int), .int .u8 (M : Int)]] w fun e w' => e = .returned (.int .i16 (biasN E : Nat)) ∧ Below w.heap.size w w') := bias_ok E M h
  obtain ⟨a, b, c, d⟩ := h
  have p1 := pow2_lt64 M (by omega)
  have HW : Hid (∀ w, Calls Oajg.prog 174 #[.int .u64 (m : Int)] w fun e w' => e = .returned (.int .u8 (bitLen m : Nat)) ∧ w' = w) := fun w => width_ok m (by omega) w
  have q1 := bitLen_pos hm0
  have q2 : bitLen m ≤ M := bitLen_le_of_lt hm
  have q3 := biasN_le b
  have q4 : m * 2 ^ (M + 1 - bitLen m) < 18446744073709551616 := by
    have h1 : m * 2 ^ (M + 1 - bitLen m) < 2 ^ bitLen m * 2 ^ (M + 1 - bitLen m) := Nat.mul_lt_mul_of_pos_right (bitLen_lt m) (pow2_pos _)
    rw [← Nat.pow_add, show bitLen m + (M + 1 - bitLen m) = M + 1 by omega] at h1
    have := pow2_lt64 (M + 1) (by omega)
    omega
  have k1 : IntKind.u64.wrap ((m : Int) * 2 ^ (M + 1 - bitLen m)) = ((m * 2 ^ (M + 1 - bitLen m) : Nat) : Int) := wrap64' (by push_cast; rfl) q4
  have hbx := sf_box w E M
  have m64 : m < 18446744073709551616 := by omega
  generalize biasN E = B at *
  generalize m * 2 ^ (M + 1 - bitLen m) = R at *
  have k0 : IntKind.u8.wrap (IntKind.u8.wrap ((M : Int) + 1) - (bitLen m : Int)) = ((M + 1 - bitLen m : Nat) : Int) := by simp only [IntKind.wrap_u8]; omega
  have k9 : min (M + 1 - bitLen m) 64 = M + 1 - bitLen m := by omega
  have k2 : IntKind.i16.wrap (IntKind.i16.wrap (IntKind.i16.wrap (1 - (B : Int)) - IntKind.i16.wrap (M : Int)) - IntKind.i16.wrap ((M + 1 - bitLen m : Nat) : Int)) = (1 - (B : Int) - M - ((M + 1 - bitLen m : Nat) : Int)) := by simp only [i16_wrap]; omega
  generalize bitLen m = L at *
  generalize M + 1 - L = U at *
  generalize hV : (1 - (B : Int) - M - (U : Int)) = V at *
  clear hm hm0
  have hS0 := sf_next hbx (boxP (w.alloc (.cells #[.int .u8 (E : Int), .int .u8 (M : Int)] 23)))
  clear hbx
  go_enter Oajg.func128, Oajg.ntmps128
  go_wp2_with fail
  go_region_held3 (fun W => W.cell? ⟨w.heap.size, 0, none⟩ = some (.int .u8 (E : Int)) ∧ W.cell? ⟨w.heap.size, 1, none⟩ = some (.int .u8 (M : Int)) ∧ w.heap.size < W.heap.size ∧ Below w.heap.size w W) ((first | with_reducible assumption | with_reducible exact sf_drew (by with_reducible assumption))) ((go_at_call 174; refine Calls.mono (HW.out _) ?_; rintro _ w1 ⟨rfl, hw⟩; subst w1))
  go_wp2_with fail
  go_region_held3 (fun W => W.cell? ⟨w.heap.size, 0, none⟩ = some (.int .u8 (E : Int)) ∧ W.cell? ⟨w.heap.size, 1, none⟩ = some (.int .u8 (M : Int)) ∧ w.heap.size < W.heap.size ∧ Below w.heap.size w W) ((first | with_reducible assumption | with_reducible exact sf_drew (by with_reducible assumption) | with_reducible exact sf_store4 (by with_reducible assumption) (by omega))) ((go_at_call 129; refine Calls.mono (HBI.out _) ?_; rintro _ w1 ⟨rfl, hb⟩; have hS1 := sf_next (by with_reducible assumption) hb; obtain ⟨hc, hf, hz⟩ := bfacts' hb; simp only [World.size_alloc, World.size_drew] at hc hf hz; clear hb))
  clear hS0
  have hz1 : w.heap.size + 1 < w1.heap.size := by omega
  go_wp2_with fail
  refine bodyPost_ret (v := .agg #[.bool neg, .int .i8 1, .int .i16 V, .int .u64 (R : Int)]) (by simp [results, Oajg.results128, go_sem, hc, hz1]) rfl ⟨rfl, ?_⟩
  exact (sf_store4 hS1 (by omega)).2.2.2

end Go.Proofs.Ygcoaj
