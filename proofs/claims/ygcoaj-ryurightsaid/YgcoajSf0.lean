/-
  WALKS: wide.Clz, soft.cut, soft.raises.
-/
import Derived.Test.YgcoajRnd2
import Derived.Laws.Strings
set_option linter.unusedVariables false
set_option linter.unusedSimpArgs false
namespace Go.Proofs.Ygcoaj
open Go.RowKit

def clzTab : ByteArray := ⟨#[63, 62, 15, 61, 6, 14, 35, 60, 2, 5, 13, 21, 25, 34, 46, 59, 1, 8, 4, 27, 10, 12, 20, 41, 18, 24, 30, 33, 39, 45, 51, 58, 0, 16, 7, 36, 3, 22, 26, 47, 9, 28, 11, 42, 19, 31, 40, 52, 17, 37, 23, 48, 29, 43, 32, 53, 38, 49, 44, 54, 50, 55, 56, 57]⟩
def clzI (s : Nat) : Nat := (s ^^^ s / 2) * 285870213051386505 % 18446744073709551616 / 288230376151711744
theorem clz_all : ∀ L : Fin 65, 1 ≤ L.val → clzI (2 ^ L.val - 1) < 64 ∧ ((clzTab.data[clzI (2 ^ L.val - 1)]?).getD 0).toNat = 64 - L.val := by decide
theorem clz_run (I V : Nat) (hI : I < 64) (hV : ((clzTab.data[I]?).getD 0).toNat = V) (w : World) : (Instr.index 9 (.string ⟨#[63, 62, 15, 61, 6, 14, 35, 60, 2, 5, 13, 21, 25, 34, 46, 59, 1, 8, 4, 27, 10, 12, 20, 41, 18, 24, 30, 33, 39, 45, 51, 58, 0, 16, 7, 36, 3, 22, 26, 47, 9, 28, 11, 42, 19, 31, 40, 52, 17, 37, 23, 48, 29, 43, 32, 53, 38, 49, 44, 54, 50, 55, 56, 57]⟩) (.int .u64 (I : Int))).run Oajg.prog w = .ok (.int .u8 (V : Int)) w := by
  have hs : (⟨#[63, 62, 15, 61, 6, 14, 35, 60, 2, 5, 13, 21, 25, 34, 46, 59, 1, 8, 4, 27, 10, 12, 20, 41, 18, 24, 30, 33, 39, 45, 51, 58, 0, 16, 7, 36, 3, 22, 26, 47, 9, 28, 11, 42, 19, 31, 40, 52, 17, 37, 23, 48, 29, 43, 32, 53, 38, 49, 44, 54, 50, 55, 56, 57]⟩ : ByteArray).size = 64 := by rfl
  rw [run_index_string w 9 _ .u64 (I : Int) Oajg.underlying9, dif_pos (by rw [hs]; omega)]
  have e : (⟨#[63, 62, 15, 61, 6, 14, 35, 60, 2, 5, 13, 21, 25, 34, 46, 59, 1, 8, 4, 27, 10, 12, 20, 41, 18, 24, 30, 33, 39, 45, 51, 58, 0, 16, 7, 36, 3, 22, 26, 47, 9, 28, 11, 42, 19, 31, 40, 52, 17, 37, 23, 48, 29, 43, 32, 53, 38, 49, 44, 54, 50, 55, 56, 57]⟩ : ByteArray) = clzTab := rfl
  have hlt : I < clzTab.data.size := hI
  rw [Array.getElem?_eq_getElem hlt] at hV
  subst hV
  rfl

set_option maxRecDepth 100000 in
set_option maxHeartbeats 1000000 in
theorem clz_ok (x : Nat) (hx : x < 18446744073709551616) (hx0 : x ≠ 0) (w : World) :
    Calls Oajg.prog 133 #[.int .u64 (x : Int)] w fun e w' => e = .returned (.int .u8 ((64 - bitLen x : Nat) : Int)) ∧ w' = w := by
  have hL : bitLen x ≤ 64 := bitLen_le_of_lt (n := 64) hx
  have hall := clz_all ⟨bitLen x, by omega⟩ (bitLen_pos hx0)
  have hs := smear_eq x hx
  obtain ⟨x1, e1⟩ : ∃ y, smear1 x = y := ⟨_, rfl⟩
  obtain ⟨x2, e2⟩ : ∃ y, smear2 x1 = y := ⟨_, rfl⟩
  obtain ⟨x3, e3⟩ : ∃ y, smear4 x2 = y := ⟨_, rfl⟩
  obtain ⟨x4, e4⟩ : ∃ y, smear8 x3 = y := ⟨_, rfl⟩
  obtain ⟨x5, e5⟩ : ∃ y, smear16 x4 = y := ⟨_, rfl⟩
  obtain ⟨x6, e6⟩ : ∃ y, smear32 x5 = y := ⟨_, rfl⟩
  unfold smear at hs
  rw [e1, e2, e3, e4, e5, e6] at hs
  simp only [← hs] at hall
  have a1 : bits .or .u64 (x : Int) ((x : Int) / 2) = (x1 : Int) := by have := (smear_step x 2 hx).1; rw [show (x ||| x / 2) = x1 from e1] at this; exact this
  have b1 : x1 < 18446744073709551616 := by rw [← e1]; exact (smear_step x 2 hx).2
  have a2 : bits .or .u64 (x1 : Int) ((x1 : Int) / 4) = (x2 : Int) := by have := (smear_step x1 4 b1).1; rw [show (x1 ||| x1 / 4) = x2 from e2] at this; exact this
  have b2 : x2 < 18446744073709551616 := by rw [← e2]; exact (smear_step x1 4 b1).2
  have a3 : bits .or .u64 (x2 : Int) ((x2 : Int) / 16) = (x3 : Int) := by have := (smear_step x2 16 b2).1; rw [show (x2 ||| x2 / 16) = x3 from e3] at this; exact this
  have b3 : x3 < 18446744073709551616 := by rw [← e3]; exact (smear_step x2 16 b2).2
  have a4 : bits .or .u64 (x3 : Int) ((x3 : Int) / 256) = (x4 : Int) := by have := (smear_step x3 256 b3).1; rw [show (x3 ||| x3 / 256) = x4 from e4] at this; exact this
  have b4 : x4 < 18446744073709551616 := by rw [← e4]; exact (smear_step x3 256 b3).2
  have a5 : bits .or .u64 (x4 : Int) ((x4 : Int) / 65536) = (x5 : Int) := by have := (smear_step x4 65536 b4).1; rw [show (x4 ||| x4 / 65536) = x5 from e5] at this; exact this
  have b5 : x5 < 18446744073709551616 := by rw [← e5]; exact (smear_step x4 65536 b4).2
  have a6 : bits .or .u64 (x5 : Int) ((x5 : Int) / 4294967296) = (x6 : Int) := by have := (smear_step x5 4294967296 b5).1; rw [show (x5 ||| x5 / 4294967296) = x6 from e6] at this; exact this
  have b6 : x6 < 18446744073709551616 := by rw [← e6]; exact (smear_step x5 4294967296 b5).2

  obtain ⟨V, hV⟩ : ∃ V, V = 64 - bitLen x := ⟨_, rfl⟩
  rw [← hV] at hall ⊢
  obtain ⟨I, hI⟩ : ∃ I, I = clzI x6 := ⟨_, rfl⟩
  rw [← hI] at hall
  have hidx := clz_run I V hall.1 hall.2
  have hxor : bits .xor .u64 (x6 : Int) ((x6 : Int) / 2) = ((x6 ^^^ x6 / 2 : Nat) : Int) := by
    have := u64_xor_nat x6 (x6 / 2) b6 (by omega)
    exact this
  have g7 : IntKind.u64.wrap (((x6 ^^^ x6 / 2 : Nat) : Int) * 285870213051386505) / 288230376151711744 = (I : Int) := by
    rw [hI, IntKind.wrap_u64]; rfl
  have hI64 : I < 64 := hall.1
  have hx0' : ((x : Int) == 0) = false := by simp; omega
  clear hall hs e1 e2 e3 e4 e5 e6 hI hV hx0 hL
  generalize (x6 ^^^ x6 / 2) = z at *
  go_enter Oajg.func133, Oajg.ntmps133
  go_wp2_with fail
  go_ret
  exact ⟨rfl, rfl⟩

/-! ### cut -/
def cutR (S k : Nat) : Nat := if k = 0 then 0 else if k ≤ 64 then S * 2 ^ (64 - k) % 18446744073709551616 else if S = 0 then 0 else 1

set_option maxRecDepth 100000 in
set_option maxHeartbeats 1000000 in
theorem cut_ok (S k : Nat) (hS : S < 18446744073709551616) (hk0 : 1 ≤ k) (hk : k ≤ 20000) (w : World) :
    Calls Oajg.prog 135 #[.int .u64 (S : Int), .int .i16 (k : Int)] w fun e w' => e = .returned (.tuple #[.int .u64 ((S / 2 ^ k : Nat) : Int), .int .u64 (cutR S k : Nat)]) ∧ Below w.heap.size w w' := by
  have j0 : ((k : Int) == 0) = false := by simp; omega
  by_cases h64 : k ≤ 64
  · have hR : cutR S k = S * 2 ^ (64 - k) % 18446744073709551616 := by unfold cutR; rw [if_neg (by omega), if_pos h64]
    obtain ⟨R, hRR⟩ : ∃ R, R = cutR S k := ⟨_, rfl⟩
    obtain ⟨Q, hQ⟩ : ∃ Q, Q = S / 2 ^ k := ⟨_, rfl⟩
    rw [← hRR, ← hQ]
    have hk64 : (k : Int) ≤ 64 := by omega
    obtain ⟨m, hm⟩ : ∃ m, m = 64 - k := ⟨_, rfl⟩
    have km : (64 : Int) - (k : Int) = (m : Int) := by omega
    have kq : (S : Int) / 2 ^ k = (Q : Int) := by rw [hQ]; push_cast; rfl
    have kr : IntKind.u64.wrap ((S : Int) * 2 ^ m) = (R : Int) := by
      have e1 : ((S * 2 ^ m : Nat) : Int) = (S : Int) * 2 ^ m := by push_cast; rfl
      rw [IntKind.wrap_u64, hRR, hR, ← hm, ← e1]; omega
    have hm63 : (m : Int) ≤ 63 := by omega
    have hm0 : (0 : Int) ≤ (m : Int) := by omega
    clear hR hRR hQ hm h64
    go_enter Oajg.func135, Oajg.ntmps135
    go_wp2_with fail
    go_quiet (fail)
    go_wp2_with fail
    go_ret2
    exact ⟨rfl, below_drewN (Below.refl _ _) _⟩
  · have h3 : (2 : Nat) ^ 64 ≤ 2 ^ k := Nat.pow_le_pow_right (by decide) (by omega)
    have hQ : S / 2 ^ k = 0 := Nat.div_eq_of_lt (Nat.lt_of_lt_of_le hS h3)
    clear h3
    have hk64 : (64 : Int) < (k : Int) := by omega
    rw [hQ]
    by_cases hS0 : S = 0
    · have hR : cutR S k = 0 := by unfold cutR; rw [if_neg (by omega), if_neg h64, if_pos hS0]
      rw [hR]
      have j1 : ((S : Int) == 0) = true := by simp [hS0]
      clear hR hQ h64 hS0
      go_enter Oajg.func135, Oajg.ntmps135
      go_wp2_with fail
      go_ret2
      exact ⟨rfl, Below.refl _ _⟩
    · have hR : cutR S k = 1 := by unfold cutR; rw [if_neg (by omega), if_neg h64, if_neg hS0]
      rw [hR]
      have j1 : ((S : Int) == 0) = false := by simp; omega
      clear hR hQ h64 hS0
      go_enter Oajg.func135, Oajg.ntmps135
      go_wp2_with fail
      go_ret2
      exact ⟨rfl, Below.refl _ _⟩

/-! ### raises -/
def hfS (rest : Nat) : Int := cmpZ rest 9223372036854775808
def smS (rest : Nat) : Bool := !(rest == 0)

set_option maxRecDepth 100000 in
set_option maxHeartbeats 1000000 in
theorem raisesS_ok (mo : Nat) (neg : Bool) (n rest : Nat) (hn : n < 18446744073709551616) (hr : rest < 18446744073709551616) (w : World) :
    Calls Oajg.prog 136 #[.int .u8 (mo : Int), .bool neg, .int .u64 (n : Int), .int .u64 (rest : Int)] w fun e w' => e = .returned (.bool (rdX mo neg (n % 2 == 1) (hfS rest) (smS rest))) ∧ Below w.heap.size w w' := by
  have hsm : ((rest : Int) != 0) = smS rest := by
    unfold smS
    by_cases h : rest = 0
    · subst h; rfl
    · rw [beq_eq_false_iff_ne.2 h]; simp; omega
  by_cases h1 : mo = 1
  · subst h1
    by_cases hc : 9223372036854775808 ≤ rest
    · have hc1 : (9223372036854775808 : Int) ≤ (rest : Int) := by omega
      have HR : Hid (rdX 1 neg (n % 2 == 1) (hfS rest) (smS rest) = true) := by
        show decide (0 ≤ hfS rest) = true
        rw [decide_eq_true_eq]
        unfold hfS cmpZ
        rw [if_neg (by omega)]; split <;> decide
      rw [HR.out]
      clear hc HR hsm
      go_enter Oajg.func136, Oajg.ntmps136
      go_wp2_with fail
      go_ret
      exact ⟨by simp [hc1], Below.refl _ _⟩
    · have hc1 : decide ((9223372036854775808 : Int) ≤ (rest : Int)) = false := by rw [decide_eq_false_iff_not]; omega
      have HR : Hid (rdX 1 neg (n % 2 == 1) (hfS rest) (smS rest) = false) := by
        show decide (0 ≤ hfS rest) = false
        unfold hfS cmpZ
        rw [if_pos (by omega)]; rfl
      rw [HR.out]
      clear hc HR hsm
      go_enter Oajg.func136, Oajg.ntmps136
      go_wp2_with fail
      go_ret
      exact ⟨by first | rfl | exact ret_bool hc1, Below.refl _ _⟩
  by_cases h2 : mo = 2
  · subst h2
    go_enter Oajg.func136, Oajg.ntmps136
    go_wp2_with fail
    go_ret
    exact ⟨rfl, Below.refl _ _⟩
  by_cases h3 : mo = 3
  · subst h3
    have HR : Hid (rdX 3 neg (n % 2 == 1) (hfS rest) (smS rest) = (smS rest && !neg)) := rfl
    rw [HR.out]
    generalize smS rest = sm at *
    clear HR
    cases sm <;> cases neg
    all_goals
      go_enter Oajg.func136, Oajg.ntmps136
      go_wp2_with fail
      go_ret
      exact ⟨rfl, Below.refl _ _⟩
  by_cases h4 : mo = 4
  · subst h4
    have HR : Hid (rdX 4 neg (n % 2 == 1) (hfS rest) (smS rest) = (smS rest && neg)) := rfl
    rw [HR.out]
    generalize smS rest = sm at *
    clear HR
    cases sm <;> cases neg
    all_goals
      go_enter Oajg.func136, Oajg.ntmps136
      go_wp2_with fail
      go_ret
      exact ⟨rfl, Below.refl _ _⟩
  have j1 : ((mo : Int) == 1) = false := by simp; omega
  have j2 : ((mo : Int) == 2) = false := by simp; omega
  have j3 : ((mo : Int) == 3) = false := by simp; omega
  have j4 : ((mo : Int) == 4) = false := by simp; omega
  have HRES : Hid (rdX mo neg (n % 2 == 1) (hfS rest) (smS rest) = (decide (0 < hfS rest) || (decide (hfS rest = 0) && (n % 2 == 1)))) := by show _ = _; unfold rdX; rw [if_neg h1, if_neg h2, if_neg h3, if_neg h4]
  rw [HRES.out]
  clear h1 h2 h3 h4 HRES hsm
  have k1 : bits .and .u64 (n : Int) 1 = ((n % 2 : Nat) : Int) := by
    have e1 : bits .and .u64 (n : Int) ((1 : Nat) : Int) = ((n &&& 1 : Nat) : Int) := u64_and_nat _ _ hn (by decide)
    rw [Nat.and_one_is_mod] at e1
    exact e1
  have k2 : (((n % 2 : Nat) : Int) == 1) = (n % 2 == 1) := by
    by_cases hh : n % 2 = 1
    · simp [hh]
    · have : n % 2 = 0 := by omega
      simp [this]
  by_cases hgt : 9223372036854775808 < rest
  · have hc1 : (9223372036854775808 : Int) < (rest : Int) := by omega
    have HR : Hid ((decide (0 < hfS rest) || (decide (hfS rest = 0) && (n % 2 == 1))) = true) := by
      show _ = _
      unfold hfS cmpZ
      rw [if_neg (by omega), if_neg (by omega)]; rfl
    rw [HR.out]
    clear hgt HR k1 k2
    go_enter Oajg.func136, Oajg.ntmps136
    go_wp2_with fail
    go_ret
    exact ⟨rfl, Below.refl _ _⟩
  · have hc1 : decide ((9223372036854775808 : Int) < (rest : Int)) = false := by rw [decide_eq_false_iff_not]; omega
    by_cases heq : rest = 9223372036854775808
    · have HR : Hid ((decide (0 < hfS rest) || (decide (hfS rest = 0) && (n % 2 == 1))) = (n % 2 == 1)) := by
        show _ = _
        unfold hfS cmpZ
        rw [if_neg (by omega), if_pos heq]; simp
      rw [HR.out]
      have jq : ((rest : Int) == 9223372036854775808) = true := by simp; omega
      clear hgt HR heq
      generalize (n % 2 == 1) = OD at *
      generalize n % 2 = N2 at *
      go_enter Oajg.func136, Oajg.ntmps136
      go_wp2_with fail
      go_ret
      exact ⟨rfl, Below.refl _ _⟩
    · have HR : Hid ((decide (0 < hfS rest) || (decide (hfS rest = 0) && (n % 2 == 1))) = false) := by
        show _ = _
        unfold hfS cmpZ
        rw [if_pos (by omega)]; rfl
      rw [HR.out]
      have jq : ((rest : Int) == 9223372036854775808) = false := by simp; omega
      clear hgt HR heq k1 k2
      go_enter Oajg.func136, Oajg.ntmps136
      go_wp2_with fail
      go_ret
      exact ⟨rfl, Below.refl _ _⟩

end Go.Proofs.Ygcoaj
