/-
  WALKS: ryu.Log10Pow2 (161), ryu.fivesIn (192), nat.Pow5 (157).
-/
import Derived.Test.YgcoajRyP2
import Derived.Test.YgcoajSq3
set_option linter.unusedVariables false
set_option linter.unusedSimpArgs false
namespace Go.Proofs.Ygcoaj
open Go.RowKit

theorem l10_range {e : Int} (h1 : -1100 ≤ e) (h2 : e ≤ 1030) : -332 ≤ l10 e ∧ l10 e ≤ 310 := by unfold l10; omega
set_option maxRecDepth 100000 in
theorem log10Pow2_ok (e : Int) (h1 : -1100 ≤ e) (h2 : e ≤ 1030) (w : World) : Calls Oajg.prog 161 #[.int .i16 e] w fun x w' => x = .returned (.int .i16 (l10 e)) ∧ w' = w := by
  have hr := l10_range h1 h2
  obtain ⟨L, hL⟩ : ∃ L, L = l10 e := ⟨_, rfl⟩
  have k1 : e * 315653 / 1048576 = L := hL.symm
  have k2 : e * 315653 / 2 ^ 20 = L := k1
  have k3 : IntKind.i32.wrap (e * 315653) = e * 315653 := by rw [IntKind.wrap_i32]; omega
  have k4 : IntKind.i16.wrap L = L := by rw [i16_wrap]; omega
  have j1 : decide (e < -1100) = false := by simp; omega
  have j2 : decide (1030 < e) = false := by simp; omega
  rw [← hL] at hr ⊢
  obtain ⟨hr1, hr2⟩ := hr
  clear hL
  go_enter Oajg.func161, Oajg.ntmps161
  go_wp2_with fail
  go_ret
  exact ⟨rfl, rfl⟩

theorem five_step {m j : Nat} : 5 ^ (j + 1) ∣ m ↔ m % 5 = 0 ∧ 5 ^ j ∣ m / 5 := by
  constructor
  · intro h
    have h5 : 5 ∣ m := Nat.dvd_trans ⟨5 ^ j, by rw [Nat.pow_succ, Nat.mul_comm]⟩ h
    refine ⟨Nat.mod_eq_zero_of_dvd h5, ?_⟩
    obtain ⟨c, hc⟩ := h
    exact ⟨c, by rw [hc, Nat.pow_succ, Nat.mul_right_comm, Nat.mul_div_cancel _ (by decide)]⟩
  · rintro ⟨h1, c, hc⟩
    refine ⟨c, ?_⟩
    have := Nat.div_add_mod m 5
    rw [h1, hc] at this
    rw [Nat.pow_succ, Nat.mul_right_comm, Nat.mul_comm]
    omega
set_option maxRecDepth 100000 in
set_option maxHeartbeats 1000000 in
theorem fivesIn_ok (m q : Nat) (hm0 : 0 < m) (hm : m < 36028797018963968) (hq : q ≤ 1000) (w : World) : Calls Oajg.prog 192 #[.int .u64 (m : Int), .int .i16 (q : Int)] w fun x w' => x = .returned (.bool (decide (5 ^ q ∣ m))) ∧ w' = w := by
  by_cases hq24 : 24 ≤ q
  · have hno : ¬ 5 ^ q ∣ m := by
      intro hd
      have h1 := Nat.le_of_dvd hm0 hd
      have h2 : 5 ^ 24 ≤ 5 ^ q := Nat.pow_le_pow_right (by decide) hq24
      have h3 : (5 : Nat) ^ 24 = 59604644775390625 := by decide
      omega
    rw [decide_eq_false hno]
    have j1 : (24 : Int) ≤ (q : Int) := by omega
    clear hno hq24
    go_enter Oajg.func192, Oajg.ntmps192
    go_wp2_with fail
    go_ret
    exact ⟨rfl, rfl⟩
  · have j1 : ¬ (24 : Int) ≤ (q : Int) := by omega
    obtain ⟨B, hB0⟩ : ∃ B, decide (5 ^ q ∣ m) = B := ⟨_, rfl⟩
    have HB : Hid (decide (5 ^ q ∣ m) = B) := hB0
    clear hB0
    rw [HB.out]
    go_enter Oajg.func192, Oajg.ntmps192
    go_wp2_with fail
    go_loop [0, 1] (fun c0 c1 => ∃ m' q' : Nat, c0 = .int .u64 (m' : Int) ∧ c1 = .int .i16 (q' : Int) ∧ m' < 36028797018963968 ∧ q' ≤ 1000 ∧ decide (5 ^ q' ∣ m') = B) (fun _ c1 => (intOf c1).toNat)
    case atStart => exact ⟨m, q, rfl, rfl, hm, hq, HB.out⟩
    case round =>
      obtain ⟨m', q', rfl, rfl, hm', hq', hB⟩ := hrel
      cases q' with
      | zero =>
        have hBt : B = true := by rw [← hB]; simp
        clear hB HB
        subst hBt
        go_wp2_with fail
        go_ret
        exact ⟨rfl, rfl⟩
      | succ j =>
        by_cases h5 : m' % 5 = 0
        · have hB2 : Hid (decide (5 ^ j ∣ m' / 5) = B) := by
            show _ = _
            rw [← hB]
            rw [decide_eq_decide]
            rw [five_step]
            exact ⟨fun h => ⟨h5, h⟩, fun h => h.2⟩
          have k1 : (m' : Int) % 5 = 0 := by omega
          obtain ⟨d, hd⟩ : ∃ d, d = m' / 5 := ⟨_, rfl⟩
          have k2 : (m' : Int) / 5 = (d : Int) := by omega
          have hd2 : d < 36028797018963968 := by omega
          rw [← hd] at hB2
          have k3 : Int.tmod (m' : Int) 5 = 0 := by rw [Int.tmod_eq_emod_of_nonneg (by omega)]; exact k1
          have k4 : Int.tdiv (m' : Int) 5 = (d : Int) := by rw [Int.tdiv_eq_ediv_of_nonneg (by omega)]; exact k2
          have kq : ((j + 1 : Nat) : Int) - 1 = (j : Int) := by omega
          have kq0 : (0 : Int) < ((j + 1 : Nat) : Int) := by omega
          clear hB HB h5 hd
          go_wp2_with fail
          go_round
          case rel => exact ⟨d, j, rfl, by first | rfl | (congr 1), hd2, by omega, hB2.out⟩
          case measure => simp [intOf]
        · have hBf : B = false := by
            rw [← hB, decide_eq_false_iff_not, five_step]
            exact fun h => h5 h.1
          have k1 : ¬ (m' : Int) % 5 = 0 := by omega
          have k3 : ¬ Int.tmod (m' : Int) 5 = 0 := by rw [Int.tmod_eq_emod_of_nonneg (by omega)]; exact k1
          clear hB HB h5
          subst hBf
          go_wp2_with fail
          go_ret
          exact ⟨rfl, rfl⟩


/-! ### Pow5 -/
theorem five_under {j B : Nat} (h : 3 * j < 32 * B) : 5 ^ j < 4294967296 ^ B := by
  have e : (4294967296 : Nat) ^ B = 2 ^ (32 * B) := by rw [Nat.pow_mul]
  rw [e]
  have h1 : 5 ^ j ≤ 8 ^ j := Nat.pow_le_pow_left (by decide) j
  have h2 : (8 : Nat) ^ j = 2 ^ (3 * j) := by rw [Nat.pow_mul]
  have h3 : 2 ^ (3 * j) < 2 ^ (32 * B) := Nat.pow_lt_pow_right (by decide) h
  omega
theorem five_is {j B B' : Nat} {w : World} {v : Value} (h : NatIs B' w v (5 ^ j)) (hj : 3 * j < 32 * B) : NatIs B w v (5 ^ j) := h.under (five_under hj)
theorem and1_u16 (x : Nat) (hx : x < 65536) : bits .and .u16 (x : Int) 1 = ((x % 2 : Nat) : Int) := by
  have e1 : (BitVec.ofInt 16 (x : Int) &&& BitVec.ofInt 16 ((1 : Nat) : Int)).toNat = x &&& 1 := by
    rw [BitVec.toNat_and, BitVec.toNat_ofInt, BitVec.toNat_ofInt]
    congr 1; omega
  show IntKind.u16.wrap ((BitVec.ofInt 16 (x : Int) &&& BitVec.ofInt 16 ((1 : Nat) : Int)).toNat : Int) = _
  rw [e1, Nat.and_one_is_mod, IntKind.wrap_u16]; omega
theorem one_limb (w : World) (x : Nat) (hx0 : x ≠ 0) (hx : x < 4294967296) : NatIs 1 (w.alloc (.cells #[.int .u32 (x : Int)] 57)) (.slice (some ⟨w.heap.size, 0, none⟩) 1 1) x := by
  refine ⟨[x], by simp [valL], by intro y hy; simp at hy; subst hy; exact hx, by intro _; simpa using hx0, by simp, Or.inr ⟨by simp, w.heap.size, 1, rfl, by simp, by simp, ?_⟩⟩
  intro j y hj
  cases j with
  | zero => simp at hj; subst hj; simp [lv]
  | succ j => simp at hj
set_option maxRecDepth 100000 in
set_option maxHeartbeats 2000000 in
theorem pow5_ok (K : Nat) (hK : K ≤ 65535) (w : World) : Calls Oajg.prog 157 #[.int .u16 (K : Int)] w fun x w' => ∃ ad k c, x = .returned (.slice ad k c) ∧ NatIs 7000 w' (.slice ad k c) (5 ^ K) ∧ Below w.heap.size w w' := by
  have H1 := hid_mk ((one_limb w 1 (by decide) (by decide)).mono (show 1 ≤ 7000 by decide))
  have HB0 := hid_mk (show Below w.heap.size w (w.alloc (.cells #[.int .u32 ((1 : Nat) : Int)] 57)) from (Below.refl _ _).alloc (Nat.le_refl _) _)
  have h16 : K / 2 ^ 16 = 0 := Nat.div_eq_of_lt (by omega)
  go_enter Oajg.func157, Oajg.ntmps157
  go_wp2_with fail
  go_loopw [3, 4] (fun c3 c4 wr => ∃ (ad : Option Addr) (k c j : Nat), c3 = .slice ad k c ∧ c4 = .int .i64 ((j : Int) - 1) ∧ j ≤ 16 ∧ NatIs 7000 wr (.slice ad k c) (5 ^ (K / 2 ^ j)) ∧ Below w.heap.size w wr) (fun _ c4 _ => (intOf c4 + 1).toNat)
  case atStart => exact ⟨_, _, _, 16, rfl, rfl, by decide, by rw [h16]; exact H1.out, HB0.out⟩
  case round =>
    clear H1 HB0 h16
    obtain ⟨ad, k, c, j, rfl, rfl, hj, hN, hB⟩ := hrel
    cases j with
    | zero =>
      rw [Nat.pow_zero, Nat.div_one] at hN
      have HN := hid_mk hN
      have HB := hid_mk hB
      clear hN hB
      go_wp2_with fail
      go_ret
      exact ⟨_, _, _, rfl, HN.out, HB.out⟩
    | succ t =>
      have HN := hid_mk hN
      have HB := hid_mk hB
      have kt : ((t + 1 : Nat) : Int) - 1 = (t : Int) := by omega
      rw [kt]
      obtain ⟨z, hz⟩ : ∃ z, z = K / 2 ^ t := ⟨_, rfl⟩
      have hz2 : K / 2 ^ (t + 1) = z / 2 := by rw [hz, Nat.pow_succ, Nat.div_div_eq_div_mul]
      have hzl : z ≤ 65535 := by rw [hz]; exact Nat.le_trans (Nat.div_le_self _ _) hK
      have kz : (K : Int) / 2 ^ t = (z : Int) := by rw [hz]; push_cast; rfl
      have ht : t ≤ 15 := by omega
      have ht0 : (0 : Int) ≤ (t : Int) := by omega
      have kA := and1_u16 z (by omega)
      rw [hz2] at HN
      clear hN hB kt hz2
      by_cases hz0 : z = 0
      · subst hz0
        have HNN : Hid (NatIs 7000 wr (.slice ad k c) (5 ^ (K / 2 ^ t))) := by rw [← hz]; exact HN.out
        clear HN hz
        go_wp2_with fail
        go_roundw
        case rel => exact ⟨_, _, _, t, rfl, by first | rfl | (congr 1), by omega, HNN.out, HB.out⟩
        case measure => simp [intOf]
      · have hz0I : ¬ (z : Int) = 0 := by omega
        have HZ := hid_mk hz
        have HM := hid_mk (shaped (mul_any 7000 7000 _ _ _ _ wr HN.out HN.out (by decide) (by decide)))
        clear hz
        by_cases hodd : z % 2 = 1
        · rw [hodd] at kA
          replace kA : bits .and .u16 (z : Int) 1 = 1 := kA
          have HZ2 := hid_mk (show 5 ^ (z / 2) * 5 ^ (z / 2) * 5 = 5 ^ z by rw [← Nat.pow_add, ← Nat.pow_succ]; congr 1; omega)
          clear hodd
          go_wp2_with fail
          refine Calls.mono HM.out ?_
          rintro _ w1 ⟨b1, l1, e1, rfl, hN1, hb1⟩
          have HN1 := hid_mk hN1
          have HB1 := hid_mk (below_then HB.out hb1)
          have H5 := hid_mk (one_limb w1 5 (by decide) (by decide))
          have HM2 := hid_mk (shaped (mul_any (7000 + 7000) 1 _ _ _ _ _ (HN1.out.kept ((Below.refl _ _).alloc (Nat.le_refl _) (.cells #[.int .u32 ((5 : Nat) : Int)] 57))) H5.out (by decide) (by decide)))
          clear hN1 hb1 HM
          go_wp2_with fail
          refine Calls.mono HM2.out ?_
          rintro _ w2 ⟨b2, l2, e2, rfl, hN2, hb2⟩
          have HB2 := hid_mk (below_then (HB1.out.alloc HB1.out.size _) hb2)
          rw [HZ2.out, HZ.out] at hN2
          have HN2 := hid_mk (five_is (B := 7000) hN2 (by rw [← HZ.out]; omega))
          clear hN2 hb2 HM2
          go_wp2_with fail
          go_roundw
          case rel => exact ⟨_, _, _, t, rfl, by first | rfl | (congr 1), by omega, HN2.out, HB2.out⟩
          case measure => simp [intOf]
        · have hev : z % 2 = 0 := by omega
          rw [hev] at kA
          replace kA : bits .and .u16 (z : Int) 1 = 0 := kA
          have HZ2 := hid_mk (show 5 ^ (z / 2) * 5 ^ (z / 2) = 5 ^ z by rw [← Nat.pow_add]; congr 1; omega)
          clear hodd hev
          go_wp2_with fail
          refine Calls.mono HM.out ?_
          rintro _ w1 ⟨b1, l1, e1, rfl, hN1, hb1⟩
          rw [HZ2.out, HZ.out] at hN1
          have HN1 := hid_mk (five_is (B := 7000) hN1 (by rw [← HZ.out]; omega))
          have HB1 := hid_mk (below_then HB.out hb1)
          clear hN1 hb1 HM
          go_wp2_with fail
          go_roundw
          case rel => exact ⟨_, _, _, t, rfl, by first | rfl | (congr 1), by omega, HN1.out, HB1.out⟩
          case measure => simp [intOf]

end Go.Proofs.Ygcoaj
