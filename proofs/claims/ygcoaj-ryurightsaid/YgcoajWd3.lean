/-
  WALKS: wide.root (186).
-/
import Derived.Test.YgcoajWd2
import Derived.WalkKit
import Derived.ProofKit
import Derived.BigQuiet
set_option linter.unusedVariables false
set_option linter.unusedSimpArgs false
namespace Go.Proofs.Ygcoaj
open Go.RowKit

structure RT (top B s left : Nat) : Prop where
  eq : left + s * s = top
  up : top < (s + B) * (s + B)
  dvd : s % B = 0
  lt : s + B ≤ 65536

theorem rt_take {top b s left : Nat} (h : RT top (2 * b) s left) (hle : (2 * s + b) * b ≤ left) : RT top b (s + b) (left - (2 * s + b) * b) := by
  obtain ⟨h1, h2, h3, h4⟩ := h
  refine ⟨?_, ?_, ?_, by omega⟩
  · have e : (s + b) * (s + b) = s * s + (2 * s + b) * b := by grind
    rw [e]; omega
  · have e : s + b + b = s + 2 * b := by omega
    rw [e]; exact h2
  · have : (s + b) % b = s % b := Nat.add_mod_right _ _
    rw [this]
    have h4 : s % b = s % (2 * b) % b := (Nat.mod_mod_of_dvd s ⟨2, by omega⟩).symm
    rw [h4, h3]; simp
theorem rt_leave {top b s left : Nat} (h : RT top (2 * b) s left) (hlt : left < (2 * s + b) * b) : RT top b s left := by
  obtain ⟨h1, h2, h3, h4⟩ := h
  refine ⟨h1, ?_, ?_, by omega⟩
  · have e : (s + b) * (s + b) = s * s + (2 * s + b) * b := by grind
    rw [e]; omega
  · have h4 : s % b = s % (2 * b) % b := (Nat.mod_mod_of_dvd s ⟨2, by omega⟩).symm
    rw [h4, h3]; simp

/-- the or of a multiple of 2^k and what lies below it -/
theorem orN (k a b : Nat) (ha : a < 18446744073709551616) (hb : b < 2 ^ k) (hk : k ≤ 64) (hm : a % 2 ^ k = 0) : bits .or .u64 (a : Int) (b : Int) = ((a + b : Nat) : Int) := by
  have hb2 : b < 18446744073709551616 := Nat.lt_of_lt_of_le hb (Nat.pow_le_pow_right (by decide) hk)
  have e : bits .or .u64 (a : Int) (b : Int) = ((a ||| b : Nat) : Int) := u64_or_nat _ _ ha hb2
  rw [nat_join k a b hm hb] at e
  exact e
theorem and16 (t : Nat) (ht : t < 18446744073709551616) : bits .and .u64 (t : Int) 65535 = ((t % 65536 : Nat) : Int) := by
  have e : bits .and .u64 (t : Int) ((65535 : Nat) : Int) = ((t &&& 65535 : Nat) : Int) := u64_and_nat _ _ ht (by decide)
  rw [show (65535 : Nat) = 2 ^ 16 - 1 from rfl, Nat.and_two_pow_sub_one_eq_mod] at e
  exact e

set_option maxRecDepth 100000 in
set_option maxHeartbeats 2000000 in
theorem root_ok (x : Nat) (h62 : 4611686018427387904 ≤ x) (h64 : x < 18446744073709551616) (w : World) :
    Calls Oajg.prog 186 #[.int .u64 (x : Int)] w fun e w' => ∃ r, IsRoot x r ∧ e = .returned (.tuple #[.int .u64 (r : Int), .int .u64 ((x - r * r : Nat) : Int)]) ∧ Below w.heap.size w w' := by
  obtain ⟨top, htop⟩ : ∃ t, t = x / 4294967296 := ⟨_, rfl⟩
  have k1 : (x : Int) / 4294967296 = (top : Int) := by omega
  have t32 : top < 4294967296 := by omega
  have HT0 : Hid (1073741824 ≤ top) := by show _ ≤ _; omega
  have HTOP : Hid (top = x / 4294967296) := htop
  have H62 : Hid (4611686018427387904 ≤ x) := h62
  clear htop h62
  go_enter Oajg.func186, Oajg.ntmps186
  go_wp2_with fail
  go_loop [2, 5, 6] (fun c2 c5 c6 => ∃ s left k : Nat, c2 = .int .u64 (s : Int) ∧ c5 = .int .u64 (left : Int) ∧ c6 = .int .u64 ((2 ^ k / 2 : Nat) : Int) ∧ k ≤ 16 ∧ RT top (2 ^ k) s left) (fun _ _ i => (intOf i).toNat)
  case atStart => exact ⟨0, top, 16, rfl, rfl, rfl, by decide, ⟨by simp, by simp; omega, rfl, by decide⟩⟩
  case round =>
    obtain ⟨s, left, k, rfl, rfl, rfl, hk, hr⟩ := hrel
    cases k with
    | succ k =>
      have e2 : 2 ^ (k + 1) / 2 = 2 ^ k := by rw [Nat.pow_succ, Nat.mul_div_cancel _ (by decide)]
      rw [e2]
      rw [show 2 ^ (k + 1) = 2 * 2 ^ k from by rw [Nat.pow_succ, Nat.mul_comm]] at hr
      have hp : 0 < 2 ^ k := Nat.pow_pos (by decide)
      have hs := hr.lt
      have hle : left ≤ top := by have := hr.eq; omega
      have hb : 2 ^ k ≤ 32768 := by omega
      have hor := orN (k + 1) s (2 ^ k) (by omega) (by rw [Nat.pow_succ]; omega) (by omega) (by have := hr.dvd; rw [Nat.pow_succ, Nat.mul_comm]; exact this)
      obtain ⟨b, hbk⟩ : ∃ b, b = 2 ^ k := ⟨_, rfl⟩
      have HBK : Hid (b / 2 = 2 ^ k / 2) := by show _ = _; rw [hbk]
      have HBK2 : Hid (RT top (2 ^ k) = RT top b) := by show _ = _; rw [hbk]
      have HK1 : Hid (k ≤ 16) := by show k ≤ 16; omega
      rw [← hbk] at hr hp hs hb hor ⊢
      clear hbk hk
      have hmul : (2 * s + b) * b < 18446744073709551616 := by
        have : (2 * s + b) * b ≤ 200000 * 32768 := Nat.mul_le_mul (by omega) hb
        omega
      obtain ⟨T, hT⟩ : ∃ T, T = (2 * s + b) * b := ⟨_, rfl⟩
      have HTake : Hid (T ≤ left → RT top b (s + b) (left - T)) := fun h => by subst hT; exact rt_take hr h
      have HLeave : Hid (¬ T ≤ left → RT top b s left) := fun h => by subst hT; exact rt_leave hr (by omega)
      rw [← hT] at hmul
      have HK : Hid (b / 2 < b) := Nat.div_lt_self hp (by decide)
      have hT2 : (2 * (s : Int) + (b : Int)) * (b : Int) = (T : Int) := by rw [hT]; rfl
      have hbz : (0 : Int) < (b : Int) := by omega
      have kb2 : (b : Int) / 2 = ((b / 2 : Nat) : Int) := rfl
      obtain ⟨b2, hb2⟩ : ∃ b2, b2 = b / 2 := ⟨_, rfl⟩
      rw [← hb2] at kb2 HBK HK
      clear e2 hT hr hb2 H62 HTOP HT0
      by_cases hc : T ≤ left
      · have HR := HTake.out hc
        have hcI : (T : Int) ≤ (left : Int) := by omega
        have kl : (left : Int) - (T : Int) = ((left - T : Nat) : Int) := by omega
        have b1 : left - T < 18446744073709551616 := by omega
        obtain ⟨LT, hLT⟩ : ∃ LT, LT = left - T := ⟨_, rfl⟩
        rw [← hLT] at kl b1 HR
        obtain ⟨sb, hsb⟩ : ∃ sb, sb = s + b := ⟨_, rfl⟩
        rw [← hsb] at hor HR
        have HR : Hid (RT top b sb LT) := HR
        clear hsb hLT HTake HLeave hc
        go_wp2_with fail
        go_round
        case rel => exact ⟨sb, LT, k, by go_num, by go_num, by first | (rw [← HBK.out]; go_num) | (rw [← HBK.out]), HK1.out, by rw [HBK2.out]; exact HR.out⟩
        case measure => simp [intOf]; exact HK.out
      · have HR : Hid (RT top b s left) := HLeave.out hc
        have hcI : decide (T ≤ left) = false := by rw [decide_eq_false_iff_not]; exact hc
        have hcJ : (left : Int) < (T : Int) := by omega
        clear HTake HLeave
        go_wp2_with fail
        go_round
        case rel => exact ⟨s, left, k, by go_num, by go_num, by first | (rw [← HBK.out]; go_num) | (rw [← HBK.out]), HK1.out, by rw [HBK2.out]; exact HR.out⟩
        case measure => simp [intOf]; exact HK.out
    | zero =>
      have h1 := hr.eq
      have htop := HTOP.out
      have h62 := H62.out
      have h2 := hr.up
      have h3 := hr.lt
      have hS15 : 32768 ≤ s := by
        rcases Nat.lt_or_ge s 32768 with h | h
        · exfalso
          have : (s + 2 ^ 0) * (s + 2 ^ 0) ≤ 32768 * 32768 := Nat.mul_le_mul (by omega) (by omega)
          have := HT0.out
          omega
        · exact h
      have hl2 : left ≤ 2 * s := by
        have e : (s + 2 ^ 0) * (s + 2 ^ 0) = s * s + 2 * s + 1 := by grind
        rw [e] at h2; omega
      obtain ⟨xl, hxl⟩ : ∃ xl, xl = x % 4294967296 := ⟨_, rfl⟩
      obtain ⟨xm, hxm⟩ : ∃ xm, xm = x / 65536 % 65536 := ⟨_, rfl⟩
      have hxm2 : xl / 65536 = xm := by omega
      have hxx : x = top * (65536 * 65536) + xl := by omega
      obtain ⟨T, hT⟩ : ∃ T, T = left * 65536 + xm := ⟨_, rfl⟩
      obtain ⟨l0, hl0⟩ : ∃ l, l = T / (2 * s) := ⟨_, rfl⟩
      have hq : l0 ≤ 65536 := by
        rw [hl0]
        have : T < 2 * s * 65537 := by omega
        have := Nat.div_lt_of_lt_mul this
        omega
      obtain ⟨l, hl⟩ : ∃ l, l = min l0 65535 := ⟨_, rfl⟩
      have hlow := root_low (B := 65536) (S := s) (x := x) (top := top) (xl := xl) (left := left) (T := T) (l := l) (xr := 0) (t := 0) (by decide) (by omega) h1 h2 hxx (by omega) (by rw [hxm2]; exact hT) (by rw [hl, hl0])
      have hll : l ≤ 65535 := by rw [hl]; exact Nat.min_le_right _ _
      obtain ⟨R, hR⟩ : ∃ R, R = s * 65536 + l := ⟨_, rfl⟩
      rw [← hR] at hlow
      have hR64 : R < 4294967296 := by omega
      have hRR : R * R < 18446744073709551616 := by
        have : R * R ≤ 4294967295 * 4294967295 := Nat.mul_le_mul (by omega) (by omega)
        omega
      have o1 := orN 16 (left * 65536) xm (by omega) (by omega) (by decide) (by omega)
      rw [← hT] at o1
      have o2 := orN 16 (s * 65536) l (by omega) (by omega) (by decide) (by omega)
      rw [← hR] at o2
      rw [show ((left * 65536 : Nat) : Int) = (left : Int) * 65536 from by omega] at o1
      rw [show ((s * 65536 : Nat) : Int) = (s : Int) * 65536 from by omega] at o2
      have kw1 : IntKind.u64.wrap ((left : Int) * 65536) = (left : Int) * 65536 := by rw [IntKind.wrap_u64]; omega
      have kw2 : IntKind.u64.wrap ((s : Int) * 65536) = (s : Int) * 65536 := by rw [IntKind.wrap_u64]; omega
      rw [← kw1] at o1
      rw [← kw2] at o2
      clear kw1 kw2
      have kx : (x : Int) / 65536 = ((x / 65536 : Nat) : Int) := by omega
      have ka := and16 (x / 65536) (by omega)
      rw [← hxm] at ka
      rw [← kx] at ka
      have T64 : T < 18446744073709551616 := by omega
      obtain ⟨D, hD⟩ : ∃ D, D = 2 * s := ⟨_, rfl⟩
      rw [← hD] at hl0
      have kw : IntKind.u64.wrap (2 * (s : Int)) = (D : Int) := by rw [IntKind.wrap_u64]; omega
      have kq1 : (T : Int).tdiv (D : Int) = (l0 : Int) := by rw [Int.tdiv_eq_ediv_of_nonneg (by omega), hl0]; rfl
      have kq2 : (T : Int) / (D : Int) = (l0 : Int) := by rw [hl0]; rfl
      have kq3 : IntKind.u64.wrap ((T : Int).tdiv (D : Int)) = (l0 : Int) := by rw [kq1, IntKind.wrap_u64]; omega
      have knz : ((D : Int) == 0) = false := by simp; omega
      have knz2 : ¬ D = 0 := by omega
      have knz3 : ¬ (D : Int) = 0 := by omega
      have hD64 : D < 18446744073709551616 := by omega
      obtain ⟨Q, hQ⟩ : ∃ Q, Q = R * R := ⟨_, rfl⟩
      have kQ : (R : Int) * (R : Int) = (Q : Int) := by rw [hQ]; push_cast; rfl
      rw [← hQ] at hRR
      have kQ2 : IntKind.u64.wrap ((R : Int) * (R : Int)) = (Q : Int) := by rw [kQ, IntKind.wrap_u64]; omega
      have HF1 : Hid (¬ x < Q → IsRoot x R) := fun h => by
        rcases hlow with hh | ⟨_, hh, _⟩
        · exact hh
        · rw [← hQ] at hh; omega
      have HF2 : Hid (x < Q → R ≠ 0 ∧ IsRoot x (R - 1)) := fun h => by
        rcases hlow with hh | ⟨h0, hh, hh2⟩
        · have := hh.1; omega
        · exact ⟨by omega, hh2⟩
      have hmin : (l0 ≤ 65535 ∧ l = l0) ∨ (¬ l0 ≤ 65535 ∧ l = 65535) := by omega
      have HQ : Hid (Q = R * R) := hQ
      clear hD hlow hr h1 h2 h3 hxl hxm hxm2 hxx hT hl0 hl hR hQ htop HT0 kx hk h62 HTOP H62
      have hfin : (¬ x < Q ∧ IsRoot x R) ∨ (x < Q ∧ ∃ R1 Q1 : Nat, R = R1 + 1 ∧ Q1 = R1 * R1 ∧ Q1 ≤ x ∧ IsRoot x R1) := by
        rcases Nat.lt_or_ge x Q with h | h
        · right
          obtain ⟨q1, q2⟩ := HF2.out h
          refine ⟨h, R - 1, (R - 1) * (R - 1), by omega, rfl, q2.1, q2⟩
        · left; exact ⟨by omega, HF1.out (by omega)⟩
      clear HF1 HF2
      rcases hfin with ⟨hq1, hq2⟩ | ⟨hq1, R1, Q1, hq3, hq4, hq5, hq2⟩
      · have HRT : Hid (IsRoot x R) := hq2
        have kx2 : (x : Int) - (Q : Int) = ((x - Q : Nat) : Int) := by omega
        have bx : x - Q < 18446744073709551616 := by omega
        obtain ⟨XQ, hXQ⟩ : ∃ XQ, XQ = x - Q := ⟨_, rfl⟩
        rw [← hXQ] at kx2 bx
        have kx3 : IntKind.u64.wrap ((x : Int) - (Q : Int)) = (XQ : Int) := by rw [kx2, IntKind.wrap_u64]; omega
        have HXQ : Hid (XQ = x - Q) := hXQ
        have hq1' : decide (x < Q) = false := by rw [decide_eq_false_iff_not]; exact hq1
        have hq1J : (Q : Int) ≤ (x : Int) := by omega
        clear hXQ hq2
        rcases hmin with ⟨hm, hm2⟩ | ⟨hm, hm2⟩
        · subst hm2
          have hm3 : ¬ 65535 < l := by omega
          go_wp2_with fail
          go_ret2
          exact ⟨R, HRT.out, by rw [← HQ.out, ← HXQ.out]; rfl, Below.refl _ _⟩
        · subst hm2
          have hm3 : 65535 < l0 := by omega
          replace o2 : bits .or .u64 (IntKind.u64.wrap ((s : Int) * 65536)) 65535 = (R : Int) := o2
          go_wp2_with fail
          go_ret2
          exact ⟨R, HRT.out, by rw [← HQ.out, ← HXQ.out]; rfl, Below.refl _ _⟩
      · have HRT : Hid (IsRoot x R1) := hq2
        have HQ1 : Hid (Q1 = R1 * R1) := hq4
        have kx2 : (x : Int) - (Q1 : Int) = ((x - Q1 : Nat) : Int) := by omega
        have bx : x - Q1 < 18446744073709551616 := by omega
        obtain ⟨XQ, hXQ⟩ : ∃ XQ, XQ = x - Q1 := ⟨_, rfl⟩
        rw [← hXQ] at kx2 bx
        have kx3 : IntKind.u64.wrap ((x : Int) - (Q1 : Int)) = (XQ : Int) := by rw [kx2, IntKind.wrap_u64]; omega
        have HXQ : Hid (XQ = x - Q1) := hXQ
        have kR1 : (R : Int) - 1 = (R1 : Int) := by omega
        have kQ1 : (R1 : Int) * (R1 : Int) = (Q1 : Int) := by rw [hq4]; push_cast; rfl
        have kR2 : IntKind.u64.wrap ((R : Int) - 1) = (R1 : Int) := by rw [kR1, IntKind.wrap_u64]; omega
        have bR1 : R1 < 4294967296 := by omega
        have bQ1 : Q1 < 18446744073709551616 := by omega
        have kQ3 : IntKind.u64.wrap ((R1 : Int) * (R1 : Int)) = (Q1 : Int) := by rw [kQ1, IntKind.wrap_u64]; omega
        have hq1J : (x : Int) < (Q : Int) := by omega
        clear hXQ hq2 hq3 hq4
        rcases hmin with ⟨hm, hm2⟩ | ⟨hm, hm2⟩
        · subst hm2
          have hm3 : ¬ 65535 < l := by omega
          go_wp2_with fail
          go_ret2
          exact ⟨R1, HRT.out, by rw [← HQ1.out, ← HXQ.out]; rfl, Below.refl _ _⟩
        · subst hm2
          have hm3 : 65535 < l0 := by omega
          replace o2 : bits .or .u64 (IntKind.u64.wrap ((s : Int) * 65536)) 65535 = (R : Int) := o2
          go_wp2_with fail
          go_ret2
          exact ⟨R1, HRT.out, by rw [← HQ1.out, ← HXQ.out]; rfl, Below.refl _ _⟩

end Go.Proofs.Ygcoaj
