/-
  WALKS: nat.Cmp, nat.Sub.
-/
import Derived.Test.YgcoajNat3
set_option linter.unusedVariables false
set_option linter.unusedSimpArgs false
namespace Go.Proofs.Ygcoaj
open Go.RowKit

def cmpZ (n m : Nat) : Int := if n < m then -1 else if n = m then 0 else 1
theorem cmpZ_lt {n m : Nat} (h : n < m) : cmpZ n m = -1 := by unfold cmpZ; rw [if_pos h]
theorem cmpZ_gt {n m : Nat} (h : m < n) : cmpZ n m = 1 := by unfold cmpZ; rw [if_neg (by omega), if_neg (by omega)]
theorem cmpZ_eq {n m : Nat} (h : n = m) : cmpZ n m = 0 := by unfold cmpZ; rw [if_neg (by omega), if_pos h]
theorem ret_i8 {a b : Int} (h : a = b) : Ending.returned (.int .i8 a) = .returned (.int .i8 b) := by rw [h]

set_option maxRecDepth 100000 in
set_option maxHeartbeats 4000000 in
theorem cmp_any (B1 B2 : Nat) (v1 v2 : Value) (n m : Nat) (w : World) (h1 : NatIs B1 w v1 n) (h2 : NatIs B2 w v2 m) (hB1 : B1 ≤ 1099511627776) (hB2 : B2 ≤ 1099511627776) :
    Calls Oajg.prog 82 #[v1, v2] w fun e w' => e = .returned (.int .i8 (cmpZ n m)) ∧ Below w.heap.size w w' := by
  have HT1 : Hid (Calls Oajg.prog 112 #[v1] w fun e w' => e = .returned v1 ∧ w' = w) := trim_norm w h1 (by omega)
  have HT2 : Hid (Calls Oajg.prog 112 #[v2] w fun e w' => e = .returned v2 ∧ w' = w) := trim_norm w h2 (by omega)
  obtain ⟨a, ad1, cap1, rfl, e1, la, na, ba, pa⟩ := h1.open
  obtain ⟨b, ad2, cap2, rfl, e2, lb, nb, bb, pb⟩ := h2.open
  have HPA : Hid (a ≠ [] → ∃ b, ad1 = some ⟨b, 0, none⟩ ∧ b < w.heap.size ∧ LimbsAt w b 0 a) := pa
  have HPB : Hid (b ≠ [] → ∃ b', ad2 = some ⟨b', 0, none⟩ ∧ b' < w.heap.size ∧ LimbsAt w b' 0 b) := pb
  subst e1
  subst e2
  clear h1 h2 pa pb
  by_cases hlen : a.length = b.length
  · have hne : ((a.length : Int) != (b.length : Int)) = false := by simp [hlen]
    have HL : Hid (a.length = b.length) := hlen
    clear hlen
    go_enter Oajg.func82, Oajg.ntmps82
    go_wp2_with fail
    refine Calls.mono HT1.out ?_
    rintro _ w0 ⟨rfl, hw⟩
    subst w0
    go_wp2_with fail
    refine Calls.mono HT2.out ?_
    rintro _ w0 ⟨rfl, hw⟩
    subst w0
    go_wp2_with fail
    clear HT1 HT2
    go_loopw [5] (fun ci wr => ∃ k : Nat, ci = .int .i64 ((k : Int) - 1) ∧ k ≤ a.length ∧ valL (a.drop k) = valL (b.drop k) ∧ Below w.heap.size w wr) (fun ci _ => (intOf ci + 1).toNat)
    case atStart => exact ⟨a.length, rfl, Nat.le_refl _, by rw [List.drop_of_length_le (Nat.le_refl _), List.drop_of_length_le (by have := HL.out; omega)], Below.refl _ _⟩
    case round =>
      obtain ⟨k, rfl, hk, hv, hbel⟩ := hrel
      cases k with
      | zero =>
        have HV : Hid (valL a = valL b) := by show valL a = valL b; simpa using hv
        have HB : Hid (Below w.heap.size w wr) := hbel
        clear hv hbel
        go_wp2_with fail
        go_ret
        exact ⟨ret_i8 (cmpZ_eq HV.out).symm, HB.out⟩
      | succ i =>
        have hia : i < a.length := by omega
        have hib : i < b.length := by have := HL.out; omega
        obtain ⟨b1, rfl, hb1, hat1⟩ := HPA.out (ne_nil_of_lt hia)
        obtain ⟨b2, rfl, hb2, hat2⟩ := HPB.out (ne_nil_of_lt hib)
        have x1 := limb_at hat1 hb1 hbel i hia
        have x2 := limb_at hat2 hb2 hbel i hib
        have HB : Hid (Below w.heap.size w wr) := hbel
        have HI : (((i + 1 : Nat) : Int) - 1) = (i : Int) := by omega
        rw [HI]
        clear HI
        by_cases hlt : a.getD i 0 < b.getD i 0
        · have HC : Hid (cmpZ (valL a) (valL b) = -1) := cmpZ_lt (cmp_lt la lb i hia hib hv hlt)
          clear hv hbel hat1 hat2
          generalize a.getD i 0 = X at *
          generalize b.getD i 0 = Y at *
          have hlt' : (X : Int) < (Y : Int) := by omega
          clear hlt
          go_wp2_with fail
          go_quiet (fail)
          go_wp2_with fail
          go_ret
          exact ⟨ret_i8 HC.out.symm, below_drewN HB.out _⟩
        · by_cases hgt : b.getD i 0 < a.getD i 0
          · have HC : Hid (cmpZ (valL a) (valL b) = 1) := cmpZ_gt (cmp_lt lb la i hib hia hv.symm hgt)
            clear hv hbel hat1 hat2
            generalize a.getD i 0 = X at *
            generalize b.getD i 0 = Y at *
            have hlt' : ¬ (X : Int) < (Y : Int) := by omega
            have hgt' : (Y : Int) < (X : Int) := by omega
            clear hlt hgt
            go_wp2_with fail
            go_quiet (fail)
            go_wp2_with fail
            go_quiet (fail)
            go_wp2_with fail
            go_ret
            exact ⟨ret_i8 HC.out.symm, below_drewN (below_drewN HB.out _) _⟩
          · have HV : Hid (valL (a.drop i) = valL (b.drop i)) := by
              show valL (a.drop i) = valL (b.drop i)
              rw [drop_succ_val a i hia, drop_succ_val b i hib, hv]; omega
            clear hv hbel hat1 hat2
            generalize a.getD i 0 = X at *
            generalize b.getD i 0 = Y at *
            have hlt' : ¬ (X : Int) < (Y : Int) := by omega
            have hgt' : ¬ (Y : Int) < (X : Int) := by omega
            clear hlt hgt
            go_wp2_with fail
            go_quiet (fail)
            go_wp2_with fail
            go_quiet (fail)
            go_wp2_with fail
            go_roundw
            case rel => exact ⟨i, rfl, by omega, HV.out, below_drewN HB.out _⟩
            case measure => simp [intOf]
  · have hne : ((a.length : Int) != (b.length : Int)) = true := by simp; omega
    by_cases hlt : a.length < b.length
    · have HC : Hid (cmpZ (valL a) (valL b) = -1) := cmpZ_lt (norm_len_le la lb nb hlt)
      clear hlen na nb
      go_enter Oajg.func82, Oajg.ntmps82
      go_wp2_with fail
      refine Calls.mono HT1.out ?_
      rintro _ w0 ⟨rfl, hw⟩
      subst w0
      go_wp2_with fail
      refine Calls.mono HT2.out ?_
      rintro _ w0 ⟨rfl, hw⟩
      subst w0
      go_wp2_with fail
      go_ret
      exact ⟨ret_i8 HC.out.symm, Below.refl _ _⟩
    · have hgt : b.length < a.length := by omega
      have HC : Hid (cmpZ (valL a) (valL b) = 1) := cmpZ_gt (norm_len_le lb la na hgt)
      clear hlen na nb
      go_enter Oajg.func82, Oajg.ntmps82
      go_wp2_with fail
      refine Calls.mono HT1.out ?_
      rintro _ w0 ⟨rfl, hw⟩
      subst w0
      go_wp2_with fail
      refine Calls.mono HT2.out ?_
      rintro _ w0 ⟨rfl, hw⟩
      subst w0
      go_wp2_with fail
      go_ret
      exact ⟨ret_i8 HC.out.symm, Below.refl _ _⟩


/-! ### Sub -/
set_option maxRecDepth 100000 in
set_option maxHeartbeats 4000000 in
theorem sub_less (B1 B2 : Nat) (v1 v2 : Value) (n m : Nat) (w : World) (h1 : NatIs B1 w v1 n) (h2 : NatIs B2 w v2 m) (hB1 : B1 ≤ 1073741824) (hB2 : B2 ≤ 1073741824) (hlt : n < m) :
    Calls Oajg.prog 156 #[v1, v2] w fun e w' => e = .returned (.tuple #[.slice none 0 0, .bool false]) ∧ Below w.heap.size w w' := by
  have HT1 : Hid (Calls Oajg.prog 112 #[v1] w fun e w' => e = .returned v1 ∧ w' = w) := trim_norm w h1 (by omega)
  have HT2 : Hid (Calls Oajg.prog 112 #[v2] w fun e w' => e = .returned v2 ∧ w' = w) := trim_norm w h2 (by omega)
  have HC : Hid (Calls Oajg.prog 82 #[v1, v2] w fun e w' => e = .returned (.int .i8 (-1)) ∧ Below w.heap.size w w') := by have := cmp_any B1 B2 v1 v2 n m w h1 h2 (by omega) (by omega); rw [cmpZ_lt hlt] at this; exact this
  clear h1 h2 hlt
  go_enter Oajg.func156, Oajg.ntmps156
  go_wp2_with fail
  refine Calls.mono HT1.out ?_
  rintro _ w0 ⟨rfl, hw⟩
  subst w0
  go_wp2_with fail
  refine Calls.mono HT2.out ?_
  rintro _ w0 ⟨rfl, hw⟩
  subst w0
  go_wp2_with fail
  refine Calls.mono HC.out ?_
  rintro _ w0 ⟨rfl, hb⟩
  go_wp2_with fail
  go_ret2
  exact ⟨rfl, hb⟩

theorem sub_mod (X Y bo : Nat) (hX : X < 4294967296) (hY : Y < 4294967296) (hb : bo ≤ 1) : ∃ t : Nat, IntKind.u64.wrap (IntKind.u64.wrap ((X : Int) - (bo : Int)) - (Y : Int)) = (t : Int) ∧ t < 18446744073709551616 ∧ t % 4294967296 + Y + bo = X + (t / 9223372036854775808) * 4294967296 ∧ t / 9223372036854775808 ≤ 1 := by
  refine ⟨(((X : Int) - bo - Y) % 18446744073709551616).toNat, ?_, ?_, ?_, ?_⟩
  · rw [IntKind.wrap_u64, IntKind.wrap_u64]; omega
  · omega
  · omega
  · omega

set_option maxRecDepth 100000 in
set_option maxHeartbeats 4000000 in
theorem sub_ge (B1 B2 : Nat) (v1 v2 : Value) (n m : Nat) (w : World) (h1 : NatIs B1 w v1 n) (h2 : NatIs B2 w v2 m) (hB1 : B1 ≤ 1073741824) (hB2 : B2 ≤ 1073741824) (hle : m ≤ n) :
    Calls Oajg.prog 156 #[v1, v2] w fun e w' => ∃ v', e = .returned (.tuple #[v', .bool true]) ∧ NatIs B1 w' v' (n - m) ∧ Below w.heap.size w w' := by
  have HT1 : Hid (Calls Oajg.prog 112 #[v1] w fun e w' => e = .returned v1 ∧ w' = w) := trim_norm w h1 (by omega)
  have HT2 : Hid (Calls Oajg.prog 112 #[v2] w fun e w' => e = .returned v2 ∧ w' = w) := trim_norm w h2 (by omega)
  have HC : Hid (Calls Oajg.prog 82 #[v1, v2] w fun e w' => e = .returned (.int .i8 (cmpZ n m)) ∧ Below w.heap.size w w') := cmp_any B1 B2 v1 v2 n m w h1 h2 (by omega) (by omega)
  have hz : 0 ≤ cmpZ n m := by unfold cmpZ; rw [if_neg (by omega)]; split <;> decide
  obtain ⟨a, ad1, cap1, rfl, e1, la, na, ba, pa⟩ := h1.open
  obtain ⟨b, ad2, cap2, rfl, e2, lb, nb, bb, pb⟩ := h2.open
  have HPA : Hid (a ≠ [] → ∃ b, ad1 = some ⟨b, 0, none⟩ ∧ b < w.heap.size ∧ LimbsAt w b 0 a) := pa
  have HPB : Hid (b ≠ [] → ∃ b', ad2 = some ⟨b', 0, none⟩ ∧ b' < w.heap.size ∧ LimbsAt w b' 0 b) := pb
  have hbl : b.length ≤ a.length := by
    by_cases h : b.length ≤ a.length
    · exact h
    · have := norm_len_le la lb nb (by omega); omega
  have HLE : Hid (valL b ≤ valL a) := by show valL b ≤ valL a; omega
  have HV : Hid (valL a - valL b = n - m) := by show valL a - valL b = n - m; rw [e1, e2]
  clear h1 h2 pa pb e1 e2 hle na nb
  generalize cmpZ n m = Z at *
  have hmk := run_make_limbs a.length (by omega)
  go_enter Oajg.func156, Oajg.ntmps156
  go_wp2_with fail
  refine Calls.mono HT1.out ?_
  rintro _ w0 ⟨rfl, hw⟩
  subst w0
  go_wp2_with fail
  refine Calls.mono HT2.out ?_
  rintro _ w0 ⟨rfl, hw⟩
  subst w0
  go_wp2_with fail
  refine Calls.mono HC.out ?_
  rintro _ w1 ⟨rfl, hb⟩
  have HB1 : Hid (Below w.heap.size w w1) := hb
  clear hb
  go_wp2_with fail
  clear HT1 HT2 HC
  have HB0 : Hid (Below w.heap.size w (w1.alloc (.cells (madeCells #[.int .u32 0] a.length) 57))) := HB1.out.alloc HB1.out.size _
  have HWN : Hid (w.heap.size ≤ w1.heap.size) := HB1.out.size
  go_loopw [23, 7] (fun ci cc wr => ∃ i c bo, ci = .int .i64 (i : Nat) ∧ cc = .int .u64 (bo : Nat) ∧ i ≤ a.length ∧ SubTo a b i c bo ∧ RowAt wr w1.heap.size c ∧ Below w.heap.size w wr) (fun ci _ _ => a.length - (intOf ci).toNat)
  case atStart => exact ⟨0, _, 0, rfl, rfl, Nat.zero_le _, sub0 a b, RowAt.made _ _, HB0.out⟩
  case round =>
    clear HB0 HB1
    obtain ⟨i, c, bo, rfl, rfl, hi, hm, hrow, hbel⟩ := hrel
    by_cases hip : i < a.length
    · obtain ⟨b1, rfl, hb1, hat1⟩ := HPA.out (ne_nil_of_lt hip)
      have x1 := limb_at hat1 hb1 hbel i hip
      have hcl : i < c.length := by rw [hm.len]; omega
      have x3 := hrow.cell i hcl
      have x4 := hrow.frozen
      have q1 := limbs_get a i la
      have q2 := limbs_get b i lb
      have q4 := hm.bor
      by_cases hiq : i < b.length
      · obtain ⟨b2, rfl, hb2, hat2⟩ := HPB.out (ne_nil_of_lt hiq)
        have x2 := limb_at hat2 hb2 hbel i hiq
        obtain ⟨t, k1, k2, k3, k4⟩ := sub_mod (a.getD i 0) (b.getD i 0) bo q1 q2 q4
        have HM : Hid (SubTo a b (i + 1) (c.set i (t % 4294967296)) (t / 9223372036854775808)) := sub_step hm hip la lb _ _ (by omega) k4 (by rw [if_pos hiq]; exact k3)
        have HR : Hid (RowAt (wr.setCell ⟨w1.heap.size, i, none⟩ (.int .u32 ((t % 4294967296 : Nat) : Int))) w1.heap.size (c.set i (t % 4294967296))) := hrow.set _ _
        have HB : Hid (Below w.heap.size w (wr.setCell ⟨w1.heap.size, i, none⟩ (.int .u32 ((t % 4294967296 : Nat) : Int)))) := hbel.setCell HWN.out _
        clear hm hrow hbel hat1 hat2 k3 k4
        generalize a.getD i 0 = X at *
        generalize b.getD i 0 = Y at *
        generalize c.getD i 0 = C at *
        go_wp2_with fail
        go_roundw
        case rel => exact ⟨i + 1, _, _, by go_num, by first | rfl | (congr 1; omega), by omega, HM.out, HR.out, HB.out⟩
        case measure => simp [intOf]; omega
      · obtain ⟨t, k1, k2, k3, k4⟩ := sub_mod (a.getD i 0) 0 bo q1 (by decide) q4
        have k1' : IntKind.u64.wrap (((a.getD i 0 : Nat) : Int) - (bo : Int)) = (t : Int) := by
          rw [← k1]; simp only [IntKind.wrap_u64]; omega
        have HM : Hid (SubTo a b (i + 1) (c.set i (t % 4294967296)) (t / 9223372036854775808)) := sub_step hm hip la lb _ _ (by omega) k4 (by rw [if_neg hiq]; exact k3)
        have HR : Hid (RowAt (wr.setCell ⟨w1.heap.size, i, none⟩ (.int .u32 ((t % 4294967296 : Nat) : Int))) w1.heap.size (c.set i (t % 4294967296))) := hrow.set _ _
        have HB : Hid (Below w.heap.size w (wr.setCell ⟨w1.heap.size, i, none⟩ (.int .u32 ((t % 4294967296 : Nat) : Int)))) := hbel.setCell HWN.out _
        clear hm hrow hbel hat1 k1 k3 k4 q2
        generalize a.getD i 0 = X at *
        generalize c.getD i 0 = C at *
        go_wp2_with fail
        go_roundw
        case rel => exact ⟨i + 1, _, _, by go_num, by first | rfl | (congr 1; omega), by omega, HM.out, HR.out, HB.out⟩
        case measure => simp [intOf]; omega
    · have hie : i = a.length := by omega
      subst hie
      have hv := sub_end hm hbl HLE.out
      have hlen2 := hm.len
      have hT := trim_new w1.heap.size a.length c B1 (by rw [hlen2]; omega) (by omega) (by rw [hlen2]; exact Nat.le_refl _) hm.lim _ hrow.lt hrow.limbs
      rw [hlen2, hv, HV.out] at hT
      have HTN : Hid (Calls Oajg.prog 112 #[.slice (some ⟨w1.heap.size, 0, none⟩) a.length a.length] wr fun e w' => w' = wr ∧ ∃ v, e = .returned v ∧ NatIs B1 wr v (n - m)) := hT
      have HB : Hid (Below w.heap.size w wr) := hbel
      clear hm hrow hbel hT hv hlen2
      go_wp2_with fail
      refine Calls.mono HTN.out ?_
      rintro _ w0 ⟨hw, v, rfl, hN⟩
      subst w0
      have HN : Hid (NatIs B1 wr v (n - m)) := hN
      clear hN
      go_wp2_with fail
      go_ret2
      exact ⟨_, rfl, HN.out, HB.out⟩

end Go.Proofs.Ygcoaj
