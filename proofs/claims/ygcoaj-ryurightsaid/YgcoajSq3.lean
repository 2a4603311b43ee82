/-
  PLAIN and WALK: nat.Sqrt (189), by Newton's steps from above.
-/
import Derived.Test.YgcoajWd2
import Derived.Test.YgcoajNatX
set_option linter.unusedVariables false
set_option linter.unusedSimpArgs false
namespace Go.Proofs.Ygcoaj
open Go.RowKit

theorem newton_start (n : Nat) : n < 2 ^ ((bitLen n + 1) / 2) * 2 ^ ((bitLen n + 1) / 2) := by
  rw [← Nat.pow_add]
  exact Nat.lt_of_lt_of_le (bitLen_lt n) (Nat.pow_le_pow_right (by decide) (by omega))
theorem newton_next {n s : Nat} (hs : 0 < s) : n < ((s + n / s) / 2 + 1) * ((s + n / s) / 2 + 1) := by
  obtain ⟨q, hq⟩ : ∃ q, q = n / s := ⟨_, rfl⟩
  have h1 : n < s * (q + 1) := by rw [hq]; exact Nat.lt_mul_div_succ n hs
  rw [← hq]
  obtain ⟨t, ht⟩ : ∃ t, t = (s + q) / 2 + 1 := ⟨_, rfl⟩
  rw [← ht]
  have h2 : s + (q + 1) ≤ 2 * t := by omega
  generalize q + 1 = p at h1 h2
  have h3 : (s + p) * (s + p) ≤ (2 * t) * (2 * t) := Nat.mul_le_mul h2 h2
  have h4 : 4 * (s * p) ≤ (s + p) * (s + p) := by
    rcases Nat.le_total s p with hh | hh
    · obtain ⟨d, rfl⟩ := Nat.exists_eq_add_of_le hh
      have : (s + (s + d)) * (s + (s + d)) = 4 * (s * (s + d)) + d * d := by grind
      omega
    · obtain ⟨d, rfl⟩ := Nat.exists_eq_add_of_le hh
      have : (p + d + p) * (p + d + p) = 4 * ((p + d) * p) + d * d := by grind
      omega
  have h5 : (2 * t) * (2 * t) = 4 * (t * t) := by grind
  omega
theorem newton_end {n s : Nat} (hs : 0 < s) (hu : n < (s + 1) * (s + 1)) (he : s ≤ (s + n / s) / 2) : IsRoot n s := by
  refine ⟨?_, hu⟩
  have h1 : s ≤ n / s := by omega
  have h2 := Nat.mul_le_mul_left s h1
  have h3 := Nat.mul_div_le n s
  omega

theorem NatIs.under {B B' : Nat} {w : World} {v : Value} {n : Nat} (h : NatIs B' w v n) (hn : n < 4294967296 ^ B) : NatIs B w v n := by
  obtain ⟨l, h1, h2, h3, h4, h5⟩ := h
  refine ⟨l, h1, h2, h3, ?_, h5⟩
  by_cases hl : l = []
  · subst hl; simp
  · have h6 := normL_pos l h3 hl
    rw [h1] at h6
    have h7 := (Nat.pow_lt_pow_iff_right (a := 4294967296) (by decide)).1 (Nat.lt_of_le_of_lt h6 hn)
    omega
theorem NatIs.lt {B : Nat} {w : World} {v : Value} {n : Nat} (h : NatIs B w v n) : n < 4294967296 ^ B := by
  obtain ⟨l, h1, h2, h3, h4, h5⟩ := h
  rw [← h1]
  exact Nat.lt_of_lt_of_le (valL_lt l h2) (Nat.pow_le_pow_right (by decide) h4)

theorem hid_mk {p : Prop} (h : p) : Hid p := h
/-- the number that a slice of limbs holds, read out of memory: the loop's measure -/
def natVal (v : Value) (w : World) : Nat :=
  match v with
  | .slice (some p) k _ => valL ((List.range k).map fun i => match w.cell? ⟨p.block, i, none⟩ with | some (.int _ x) => x.toNat | _ => 0)
  | _ => 0
theorem natVal_eq {B : Nat} {w : World} {v : Value} {n : Nat} (h : NatIs B w v n) : natVal v w = n := by
  obtain ⟨l, h1, h2, h3, h4, h5⟩ := h
  rcases h5 with ⟨rfl, rfl⟩ | ⟨h5, b, cap, rfl, h6, h7, h8⟩
  · exact h1
  · rw [← h1]
    show valL _ = valL l
    congr 1
    apply List.ext_getElem
    · simp
    · intro i hi1 hi2
      have := h8 i l[i] (by simp [hi2])
      rw [Nat.zero_add] at this
      simp [this, lv]
theorem lift_under {B n : Nat} (h : n < 4294967296 ^ B) : 2 ^ ((bitLen n + 1) / 2) < 4294967296 ^ (B + 1) := by
  have e : ∀ k, (4294967296 : Nat) ^ k = 2 ^ (32 * k) := fun k => by rw [Nat.pow_mul]
  rw [e] at h ⊢
  have := bitLen_le_of_lt h
  exact Nat.pow_lt_pow_right (by decide) (by omega)

theorem shr1_any (B : Nat) (v : Value) (n : Nat) (w : World) (h : NatIs B w v n) (hB : B ≤ 1073741824) :
    Calls Oajg.prog 115 #[v, .int .u16 1] w fun e w' => ∃ ad k c lo, e = .returned (.tuple #[.slice ad k c, .bool lo]) ∧ NatIs B w' (.slice ad k c) (n / 2) ∧ Below w.heap.size w w' := by
  have := shr_ok B v n 1 w hB (by decide) ((trim_norm w h (by omega)).mono fun e w' hh => by
    obtain ⟨rfl, rfl⟩ := hh
    exact ⟨rfl, _, rfl, h⟩)
  rw [Nat.pow_one] at this
  exact this

set_option maxRecDepth 100000 in
set_option maxHeartbeats 4000000 in
theorem nsqrt_ok (B : Nat) (ad : Option Addr) (k c n : Nat) (w : World) (h : NatIs B w (.slice ad k c) n) (hB : B ≤ 100000) :
    Calls Oajg.prog 189 #[.slice ad k c] w fun e w' => ∃ ad k c wh r, IsRoot n r ∧ e = .returned (.tuple #[.slice ad k c, .bool wh]) ∧ NatIs (B + 3) w' (.slice ad k c) r ∧ Below w.heap.size w w' := by
  have HT : Hid (Calls Oajg.prog 112 #[.slice ad k c] w fun e w' => e = .returned (.slice ad k c) ∧ w' = w) := trim_norm w h (by omega)
  have hnil := eql_nil
  by_cases hn : n = 0
  · subst hn
    have hv := h.of_zero
    injection hv with h1 h2 h3
    subst h1 h2 h3
    clear h
    go_enter Oajg.func189, Oajg.ntmps189
    go_wp2_with fail
    refine Calls.mono HT.out ?_
    rintro _ w0 ⟨rfl, hw⟩
    subst w0
    go_wp2_with fail
    go_ret2
    exact ⟨_, _, _, _, 0, ⟨by decide, by decide⟩, rfl, natIs_nil _ _, Below.refl _ _⟩
  · have HN : Hid (NatIs B w (.slice ad k c) n) := h
    have HNE : Hid (n ≠ 0) := hn
    obtain ⟨l, b, cap, e1, l1, l2, l3, l4, hv, l5, l6, l7⟩ := h.of_pos hn
    injection hv with h1 h2 h3
    subst h1 h2 h3
    clear h hn e1 l1 l2 l3 l5 l6 l7
    have HBL : Hid (∀ w', Below w.heap.size w w' → Calls Oajg.prog 68 #[.slice (some ⟨b, 0, none⟩) l.length c] w' fun e w'' => e = .returned (.int .i64 (bitLen n : Nat)) ∧ Below w'.heap.size w' w'') := fun w' hb => bitLen_ok B _ n w' (HN.out.kept hb) (by omega)
    have hbl : bitLen n ≤ 32 * B := by
      refine bitLen_le_of_lt ?_
      rw [Nat.pow_mul]
      exact HN.out.lt
    obtain ⟨L, HL⟩ : ∃ L, Hid (bitLen n = L) := ⟨_, rfl⟩
    rw [HL.out] at hbl HBL
    have kq : Int.tdiv ((L : Int) + 1) 2 = (((L + 1) / 2 : Nat) : Int) := by rw [Int.tdiv_eq_ediv_of_nonneg (by omega)]; omega
    go_enter Oajg.func189, Oajg.ntmps189
    go_wp2_with fail
    refine Calls.mono HT.out ?_
    rintro _ w0 ⟨rfl, hw⟩
    subst w0
    go_wp2_with fail
    have hb0 : Below w.heap.size w (w.alloc (.cells #[.int .u32 1] 57)) := (Below.refl _ _).alloc (Nat.le_refl _) _
    have H1 : Hid (NatIs 1 (w.alloc (.cells #[.int .u32 1] 57)) (.slice (some ⟨w.heap.size, 0, none⟩) 1 1) 1) := by
      refine ⟨[1], rfl, by intro x hx; simp at hx; subst hx; decide, by intro _; simp, by decide, Or.inr ⟨by simp, w.heap.size, 1, rfl, by decide, by simp, ?_⟩⟩
      intro j x hj
      cases j with
      | zero => simp at hj; subst hj; simp [lv]
      | succ j => simp at hj
    refine Calls.mono (HBL.out _ hb0) ?_
    rintro _ w1 ⟨rfl, hb1⟩
    have HB1 : Hid (Below w.heap.size w w1) := below_then hb0 hb1
    have HLI : Hid (Calls Oajg.prog 130 #[.slice (some ⟨w.heap.size, 0, none⟩) 1 1, .int .i64 (((L + 1) / 2 : Nat) : Int)] w1 fun e w' => ∃ ad k c, e = .returned (.slice ad k c) ∧ NatIs (B + 1) w' (.slice ad k c) (2 ^ ((L + 1) / 2)) ∧ Below w1.heap.size w1 w') := by
      refine Calls.mono (shaped (lift_any 1 _ 1 ((L + 1) / 2) w1 (H1.out.kept hb1) (by decide) (by omega))) ?_
      rintro e w' ⟨ad, k, c, rfl, hN, hb⟩
      rw [Nat.one_mul] at hN
      exact ⟨_, _, _, rfl, hN.under (by rw [← HL.out]; exact lift_under HN.out.lt), hb⟩
    clear hb0 hb1 HBL HT
    go_wp2_with fail
    refine Calls.mono HLI.out ?_
    rintro _ w2 ⟨bs, ls, cs, rfl, hs, hb⟩
    have HB2 : Hid (Below w.heap.size w w2) := below_then HB1.out hb
    have HS0 : Hid (NatIs (B + 1) w2 (.slice bs ls cs) (2 ^ ((L + 1) / 2))) := hs
    have HST : Hid (n < (2 ^ ((L + 1) / 2) + 1) * (2 ^ ((L + 1) / 2) + 1)) := by
      have := newton_start n
      rw [HL.out] at this
      exact Nat.lt_trans this (Nat.mul_self_lt_mul_self (Nat.lt_succ_self _))
    clear hs hb HLI HB1 H1 kq hbl
    go_wp2_with fail
    go_loopw [2] (fun ci wr => ∃ ad k c s, ci = .slice ad k c ∧ NatIs (B + 1) wr (.slice ad k c) s ∧ 0 < s ∧ n < (s + 1) * (s + 1) ∧ Below w.heap.size w wr) (fun ci wr => natVal ci wr)
    case atStart => exact ⟨_, _, _, _, rfl, HS0.out, Nat.pow_pos (by decide), HST.out, HB2.out⟩
    case round =>
      clear HS0 HST HB2
      obtain ⟨ad, k, c', s, rfl, hs, hs0, hsu, hbel⟩ := hrel
      have HS : Hid (NatIs (B + 1) wr (.slice ad k c') s ∧ 0 < s ∧ n < (s + 1) * (s + 1)) := ⟨hs, hs0, hsu⟩
      have HBR : Hid (Below w.heap.size w wr) := hbel
      have HSV : Hid (NatIs (B + 1) wr (.slice ad k c') s) := hs
      have HDV : Hid (Calls Oajg.prog 113 #[.slice (some ⟨b, 0, none⟩) l.length c, .slice ad k c'] wr fun e w' => ∃ ad1 k1 c1 ad2 k2 c2, e = .returned (.tuple #[.slice ad1 k1 c1, .slice ad2 k2 c2, .bool true]) ∧ NatIs (B + 2) w' (.slice ad1 k1 c1) (n / s) ∧ NatIs (B + 2) w' (.slice ad2 k2 c2) (n % s) ∧ Below wr.heap.size wr w') :=
        divMod_ok B (B + 1) _ _ n s wr (HN.out.kept hbel) hs (by omega) (by omega) (by omega)
      clear hs hs0 hsu hbel
      go_wp2_with fail
      refine Calls.mono HDV.out ?_
      rintro _ w3 ⟨bq, lq, cq, b4, l4, c4, rfl, hq, hr, hb⟩
      replace HBR := hid_mk (below_then HBR.out hb)
      replace HS := hid_mk (And.intro (HS.out.1.kept hb) HS.out.2)
      have HAD : Hid (Calls Oajg.prog 155 #[.slice ad k c', .slice bq lq cq] w3 fun e w' => ∃ ad k c, e = .returned (.slice ad k c) ∧ NatIs ((B + 1) + (B + 2) + 1) w' (.slice ad k c) (s + n / s) ∧ Below w3.heap.size w3 w') := shaped (add_any (B + 1) (B + 2) _ _ s (n / s) w3 HS.out.1 hq (by omega) (by omega))
      clear hb hq hr HDV
      go_wp2_with fail
      refine Calls.mono HAD.out ?_
      rintro _ w4 ⟨ba, la, ca, rfl, hN, hb⟩
      replace HBR := hid_mk (below_then HBR.out hb)
      replace HS := hid_mk (And.intro (HS.out.1.kept hb) HS.out.2)
      have HSR : Hid (Calls Oajg.prog 115 #[.slice ba la ca, .int .u16 1] w4 fun e w' => ∃ ad k c lo, e = .returned (.tuple #[.slice ad k c, .bool lo]) ∧ NatIs ((B + 1) + (B + 2) + 1) w' (.slice ad k c) ((s + n / s) / 2) ∧ Below w4.heap.size w4 w') := shr1_any ((B + 1) + (B + 2) + 1) _ _ w4 hN (by omega)
      clear hb hN HAD
      go_wp2_with fail
      refine Calls.mono HSR.out ?_
      rintro _ w5 ⟨bx, lx, cx, lo, rfl, hN, hb⟩
      replace HBR := hid_mk (below_then HBR.out hb)
      replace HS := hid_mk (And.intro (HS.out.1.kept hb) HS.out.2)
      have HX : Hid (NatIs ((B + 1) + (B + 2) + 1) w5 (.slice bx lx cx) ((s + n / s) / 2)) := hN
      have HCM : Hid (Calls Oajg.prog 82 #[.slice bx lx cx, .slice ad k c'] w5 fun e w' => e = .returned (.int .i8 (cmpZ ((s + n / s) / 2) s)) ∧ Below w5.heap.size w5 w') := cmp_any _ _ _ _ _ _ w5 hN HS.out.1 (by omega) (by omega)
      clear hb hN HSR
      by_cases hcmp : (s + n / s) / 2 < s
      · rw [cmpZ_lt hcmp] at HCM
        have HCP : Hid ((s + n / s) / 2 < s) := hcmp
        clear hcmp
        go_wp2_with fail
        refine Calls.mono HCM.out ?_
        rintro _ w6 ⟨rfl, hb⟩
        replace HBR := hid_mk (below_then HBR.out hb)
        replace HX := hid_mk (HX.out.kept hb)
        have HMV : Hid (natVal (.slice ad k c') wr = s) := natVal_eq HSV.out
        clear hb HCM
        go_wp2_with fail
        go_roundw
        case rel =>
          refine ⟨_, _, _, _, rfl, HX.out.under ?_, ?_, newton_next HS.out.2.1, HBR.out⟩
          · exact Nat.lt_trans HCP.out HS.out.1.lt
          · have h1 := newton_next (n := n) HS.out.2.1
            have h2 := HNE.out
            rcases Nat.eq_zero_or_pos ((s + n / s) / 2) with h0 | h0
            · rw [h0] at h1; omega
            · exact h0
        case measure => rw [natVal_eq HX.out, HMV.out]; exact HCP.out
      · have hz : 0 ≤ cmpZ ((s + n / s) / 2) s := by unfold cmpZ; rw [if_neg hcmp]; split <;> decide
        have HRT : Hid (IsRoot n s) := newton_end HS.out.2.1 HS.out.2.2 (by omega)
        obtain ⟨Z, HZ⟩ : ∃ Z, Hid (cmpZ ((s + n / s) / 2) s = Z) := ⟨_, rfl⟩
        rw [HZ.out] at hz HCM
        clear hcmp HX
        go_wp2_with fail
        refine Calls.mono HCM.out ?_
        rintro _ w6 ⟨rfl, hb⟩
        replace HBR := hid_mk (below_then HBR.out hb)
        replace HS := hid_mk (And.intro (HS.out.1.kept hb) HS.out.2)
        have HMU : Hid (Calls Oajg.prog 62 #[.slice ad k c', .slice ad k c'] w6 fun e w' => ∃ ad k c, e = .returned (.slice ad k c) ∧ NatIs ((B + 1) + (B + 1)) w' (.slice ad k c) (s * s) ∧ Below w6.heap.size w6 w') := shaped (mul_any (B + 1) (B + 1) _ _ s s w6 HS.out.1 HS.out.1 (by omega) (by omega))
        clear hb HCM
        go_wp2_with fail
        refine Calls.mono HMU.out ?_
        rintro _ w7 ⟨bm, lm, cm, rfl, hN, hb⟩
        replace HBR := hid_mk (below_then HBR.out hb)
        replace HS := hid_mk (And.intro (HS.out.1.kept hb) HS.out.2)
        have HCM : Hid (Calls Oajg.prog 82 #[.slice bm lm cm, .slice (some ⟨b, 0, none⟩) l.length c] w7 fun e w' => e = .returned (.int .i8 (cmpZ (s * s) n)) ∧ Below w7.heap.size w7 w') := cmp_any _ _ _ _ _ _ w7 hN (HN.out.kept HBR.out) (by omega) (by omega)
        clear hb hN HMU
        generalize cmpZ (s * s) n = Z2 at *
        go_wp2_with fail
        refine Calls.mono HCM.out ?_
        rintro _ w8 ⟨rfl, hb⟩
        replace HBR := hid_mk (below_then HBR.out hb)
        replace HS := hid_mk (And.intro (HS.out.1.kept hb) HS.out.2)
        clear hb HCM
        go_wp2_with fail
        go_ret2
        exact ⟨_, _, _, _, s, HRT.out, rfl, HS.out.1.mono (by omega), HBR.out⟩

end Go.Proofs.Ygcoaj
