/-
  WALKS: exact.ofDigits (213).
-/
import Derived.Test.YgcoajRy6
set_option linter.unusedVariables false
set_option linter.unusedSimpArgs false
namespace Go.Proofs.Ygcoaj
open Go.RowKit

/-- the digits from i0 to i: their value, their weight -/
def OdI (n L i0 i v p j : Nat) : Prop := i0 ≤ i ∧ i ≤ L ∧ j = i - i0 ∧ j ≤ 9 ∧ p = 10 ^ j ∧ v < p ∧ n / 10 ^ (L - i) = n / 10 ^ (L - i0) * p + v
theorem od_step {n L i0 i v p j : Nat} (h : OdI n L i0 i v p j) (hi : i < L) (hj : j < 9) : OdI n L i0 (i + 1) (10 * v + (dgt n (L - 1 - i) - 48)) (p * 10) (j + 1) := by
  obtain ⟨h1, h2, h3, h4, h5, h6, h7⟩ := h
  have e : L - i = (L - 1 - i) + 1 := by omega
  have hd : dgt n (L - 1 - i) - 48 = n / 10 ^ (L - 1 - i) % 10 := by unfold dgt; omega
  have hq : n / 10 ^ (L - i) = n / 10 ^ (L - 1 - i) / 10 := by rw [e, Nat.pow_succ, Nat.div_div_eq_div_mul]
  refine ⟨by omega, by omega, by omega, by omega, by rw [h5, Nat.pow_succ], ?_, ?_⟩
  · rw [hd]; omega
  · rw [hd, show L - (i + 1) = L - 1 - i from by omega]
    have h8 := Nat.div_add_mod (n / 10 ^ (L - 1 - i)) 10
    rw [← hq, h7] at h8
    rw [← h8]; grind
theorem od_p {n L i0 i v p j : Nat} (h : OdI n L i0 i v p j) : p ≤ 1000000000 := by
  obtain ⟨h1, h2, h3, h4, h5, h6, h7⟩ := h
  rw [h5]
  exact Nat.le_trans (Nat.pow_le_pow_right (by decide) h4) (by decide)

set_option maxRecDepth 100000 in
set_option maxHeartbeats 1000000 in
theorem ofDigits_ok (n L : Nat) (hL2 : L ≤ 18) (hlt : n < 10 ^ L) (w : World) :
    Calls Oajg.prog 213 #[.string (dstr L n)] w fun x w' => ∃ ad k c, x = .returned (.slice ad k c) ∧ NatIs 1000 w' (.slice ad k c) n ∧ Below w.heap.size w w' := by
  have hsz := dstr_size L n
  have HG := hid_mk (fun i h => dstr_get L n i h)
  generalize dstr L n = s at *
  have HLT := hid_mk hlt
  clear hlt
  go_enter Oajg.func213, Oajg.ntmps213
  go_wp2_with fail
  go_loopw [3, 4] (fun c3 c4 wr => ∃ (ad : Option Addr) (k c i : Nat), c3 = .slice ad k c ∧ c4 = .int .i64 (i : Int) ∧ i ≤ L ∧ NatIs (10 + 10 * i) wr (.slice ad k c) (n / 10 ^ (L - i)) ∧ Below w.heap.size w wr) (fun _ c4 _ => L - (intOf c4).toNat)
  case atStart => exact ⟨none, 0, 0, 0, rfl, rfl, by omega, by rw [Nat.sub_zero, Nat.div_eq_of_lt HLT.out]; exact natIs_nil _ _, Below.refl _ _⟩
  case round =>
    obtain ⟨ad, k, c, i0, rfl, rfl, hi, hN, hbel⟩ := hrel
    have HN := hid_mk hN
    have HB := hid_mk hbel
    clear hN hbel
    by_cases hiL : i0 < L
    · go_wp2_with fail
      go_loopw [4, 5, 6, 7] (fun c4 c5 c6 c7 wi => ∃ (i v p j : Nat), c4 = .int .i64 (i : Int) ∧ c5 = .int .u64 (v : Int) ∧ c6 = .int .u64 (p : Int) ∧ c7 = .int .i64 (j : Int) ∧ OdI n L i0 i v p j ∧ Kp wr wi ∧ Below w.heap.size w wi) (fun _ _ _ c7 _ => 9 - (intOf c7).toNat)
      case atStart => exact ⟨i0, 0, 1, 0, rfl, rfl, rfl, rfl, ⟨by omega, by omega, by omega, by omega, by simp, by omega, by simp⟩, Kp.refl _, HB.out⟩
      case round =>
        obtain ⟨i, v, p, j, rfl, rfl, rfl, rfl, hod, hkp, hbel⟩ := hrel
        have HN2 := hid_mk (HN.out.kp hkp)
        have HKP := hid_mk hkp
        have HB2 := hid_mk hbel
        have hp9 := od_p hod
        have hv9 : v < p := hod.2.2.2.2.2.1
        have hiL' : i ≤ L := hod.2.1
        have hj9 : j ≤ 9 := hod.2.2.2.1
        have HOD := hid_mk hod
        clear hkp hbel hod
        by_cases hgo : j < 9 ∧ i < L
        · have hix : (s[i]'(by omega)).toNat = dgt n (L - 1 - i) := HG.out i (by omega)
          have d1 := dgt_lo n (L - 1 - i)
          have d2 := dgt_hi n (L - 1 - i)
          have HST := hid_mk (od_step HOD.out hgo.2 hgo.1)
          have hp' : p * 10 ≤ 1000000000 := od_p HST.out
          obtain ⟨hj, hil⟩ := hgo
          generalize dgt n (L - 1 - i) = d at *
          have hb1 : decide ((j : Int) < 9) = true := decide_eq_true (by omega)
          have hb2 : decide ((i : Int) < (L : Int)) = true := decide_eq_true (by omega)
          go_wp2_with fail
          go_roundw
          case rel => exact ⟨i + 1, 10 * v + (d - 48), p * 10, j + 1, by go_num, by congr 1; omega, by go_num, by go_num, HST.out, HKP.out, HB2.out⟩
          case measure => simp [intOf]; omega
        · have hend : ¬ (j < 9 ∧ i < L) := hgo
          have hgt : i0 < i := by
            obtain ⟨h1, h2, h3, h4, _⟩ := HOD.out
            omega
          have HOE : Hid (n / 10 ^ (L - i) = n / 10 ^ (L - i0) * p + v) := HOD.out.2.2.2.2.2.2
          have HF1 := hid_mk (fun w => shaped (fromU64_any (p : Int) (by omega) (by omega) w))
          have HF2 := hid_mk (fun w => shaped (fromU64_any (v : Int) (by omega) (by omega) w))
          rw [Int.toNat_natCast] at HF1 HF2
          by_cases hj : j < 9
          · have hb1 : decide ((j : Int) < 9) = true := decide_eq_true (by omega)
            have hb2 : decide (i < L) = false := decide_eq_false (by omega)
            have hb3 : ¬ i < L := by omega
            clear hend hgo
            go_wp2_with fail
            refine Calls.mono (HF1.out _) ?_
            rintro _ w1 ⟨b1, l1, e1, rfl, hN1, hb⟩
            have HK1 := hid_mk (HN2.out.kept hb)
            have HB3 := hid_mk (below_then HB2.out hb)
            have HM := hid_mk (shaped (mul_any (10 + 10 * i0) 2 _ _ _ _ w1 HK1.out hN1 (by omega) (by omega)))
            clear hN1 hb
            go_wp2_with fail
            refine Calls.mono HM.out ?_
            rintro _ w2 ⟨b2, l2, e2, rfl, hN2, hb⟩
            have HK2 := hid_mk hN2
            have HB4 := hid_mk (below_then HB3.out hb)
            clear hN2 hb HM
            go_wp2_with fail
            refine Calls.mono (HF2.out _) ?_
            rintro _ w3 ⟨b3, l3, e3, rfl, hN3, hb⟩
            have HK3 := hid_mk (HK2.out.kept hb)
            have HB5 := hid_mk (below_then HB4.out hb)
            have HA := hid_mk (shaped (add_any (10 + 10 * i0 + 2) 2 _ _ _ _ w3 HK3.out hN3 (by omega) (by omega)))
            clear hN3 hb
            go_wp2_with fail
            refine Calls.mono HA.out ?_
            rintro _ w4 ⟨b4, l4, e4, rfl, hN4, hb⟩
            have HK4 := hid_mk hN4
            have HB6 := hid_mk (below_then HB5.out hb)
            clear hN4 hb HA
            go_wp2_with fail
            go_roundw
            case rel => exact ⟨b4, l4, e4, i, rfl, rfl, hiL', by rw [HOE.out]; exact HK4.out.mono (by omega), HB6.out⟩
            case measure => simp [intOf]; omega
          · have hb1 : decide ((j : Int) < 9) = false := decide_eq_false (by omega)
            clear hend hgo
            go_wp2_with fail
            refine Calls.mono (HF1.out _) ?_
            rintro _ w1 ⟨b1, l1, e1, rfl, hN1, hb⟩
            have HK1 := hid_mk (HN2.out.kept hb)
            have HB3 := hid_mk (below_then HB2.out hb)
            have HM := hid_mk (shaped (mul_any (10 + 10 * i0) 2 _ _ _ _ w1 HK1.out hN1 (by omega) (by omega)))
            clear hN1 hb
            go_wp2_with fail
            refine Calls.mono HM.out ?_
            rintro _ w2 ⟨b2, l2, e2, rfl, hN2, hb⟩
            have HK2 := hid_mk hN2
            have HB4 := hid_mk (below_then HB3.out hb)
            clear hN2 hb HM
            go_wp2_with fail
            refine Calls.mono (HF2.out _) ?_
            rintro _ w3 ⟨b3, l3, e3, rfl, hN3, hb⟩
            have HK3 := hid_mk (HK2.out.kept hb)
            have HB5 := hid_mk (below_then HB4.out hb)
            have HA := hid_mk (shaped (add_any (10 + 10 * i0 + 2) 2 _ _ _ _ w3 HK3.out hN3 (by omega) (by omega)))
            clear hN3 hb
            go_wp2_with fail
            refine Calls.mono HA.out ?_
            rintro _ w4 ⟨b4, l4, e4, rfl, hN4, hb⟩
            have HK4 := hid_mk hN4
            have HB6 := hid_mk (below_then HB5.out hb)
            clear hN4 hb HA
            go_wp2_with fail
            go_roundw
            case rel => exact ⟨b4, l4, e4, i, rfl, rfl, hiL', by rw [HOE.out]; exact HK4.out.mono (by omega), HB6.out⟩
            case measure => simp [intOf]; omega
    · go_wp2_with fail
      go_ret
      exact ⟨_, _, _, rfl, by have := HN.out; rw [show L - i0 = 0 from by omega, Nat.pow_zero, Nat.div_one] at this; exact this.mono (by omega), HB.out⟩
end Go.Proofs.Ygcoaj
