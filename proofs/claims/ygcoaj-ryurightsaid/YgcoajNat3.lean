/-
  WALKS: nat.Add.
-/
import Derived.Test.YgcoajNat2
set_option linter.unusedVariables false
set_option linter.unusedSimpArgs false
namespace Go.Proofs.Ygcoaj
open Go.RowKit

set_option maxRecDepth 100000 in
set_option maxHeartbeats 4000000 in
theorem add_any (B1 B2 : Nat) (v1 v2 : Value) (n m : Nat) (w : World) (h1 : NatIs B1 w v1 n) (h2 : NatIs B2 w v2 m) (hB1 : B1 ≤ 1073741824) (hB2 : B2 ≤ 1073741824) :
    Calls Oajg.prog 155 #[v1, v2] w fun e w' => ∃ v', e = .returned v' ∧ NatIs (B1 + B2 + 1) w' v' (n + m) ∧ Below w.heap.size w w' := by
  have HT1 : Hid (Calls Oajg.prog 112 #[v1] w fun e w' => e = .returned v1 ∧ w' = w) := trim_norm w h1 (by omega)
  have HT2 : Hid (Calls Oajg.prog 112 #[v2] w fun e w' => e = .returned v2 ∧ w' = w) := trim_norm w h2 (by omega)
  obtain ⟨a, ad1, cap1, rfl, e1, la, na, ba, pa⟩ := h1.open
  obtain ⟨b, ad2, cap2, rfl, e2, lb, nb, bb, pb⟩ := h2.open
  have HPA : Hid _ := pa
  have HPB : Hid _ := pb
  have HV : Hid (valL a + valL b = n + m) := by show valL a + valL b = n + m; rw [e1, e2]
  have HV' : Hid (valL b + valL a = n + m) := by show valL b + valL a = n + m; rw [e1, e2, Nat.add_comm]
  clear h1 h2 e1 e2 na nb pa pb
  by_cases hsw : a.length < b.length
  · have hsz : a.length ≤ b.length := by omega
    have hmk : ∀ w, (Instr.makeSlice 46 (.int .i64 ((b.length : Int) + 1)) (.int .i64 ((b.length : Int) + 1))).run Oajg.prog w = .ok (.slice (some ⟨w.heap.size, 0, none⟩) (b.length + 1) (b.length + 1)) (w.alloc (.cells (madeCells #[.int .u32 0] (b.length + 1)) 57)) := run_make_limbs (b.length + 1) (by omega)
    go_enter Oajg.func155, Oajg.ntmps155
    go_wp2_with fail
    refine Calls.mono HT1.out ?_
    rintro _ w0 ⟨rfl, hw⟩
    subst w0
    go_wp2_with fail
    refine Calls.mono HT2.out ?_
    rintro _ w0 ⟨rfl, hw⟩
    subst w0
    go_wp2_with fail
    clear HT1 HT2
    have HB0 : Hid (Below w.heap.size w (w.alloc (.cells (madeCells #[.int .u32 0] (b.length + 1)) 57))) := (Below.refl _ _).alloc (Nat.le_refl _) _
    go_loopw [25, 6] (fun ci cc wr => ∃ i c carry, ci = .int .i64 (i : Nat) ∧ cc = .int .u64 (carry : Nat) ∧ i ≤ b.length ∧ AddTo b a i c carry ∧ RowAt wr w.heap.size c ∧ Below w.heap.size w wr) (fun ci _ _ => b.length - (intOf ci).toNat)
    case atStart => exact ⟨0, _, 0, rfl, rfl, Nat.zero_le _, add0 b a, RowAt.made _ _, HB0.out⟩
    case round =>
      clear HB0
      obtain ⟨i, c, carry, rfl, rfl, hi, hm, hrow, hbel⟩ := hrel
      by_cases hip : i < b.length
      · obtain ⟨b1, rfl, hb1, hat1⟩ := HPB.out (ne_nil_of_lt hip)
        have x1 := limb_at hat1 hb1 hbel i hip
        have hcl : i < c.length := by rw [hm.len]; omega
        have x3 := hrow.cell i hcl
        have x4 := hrow.frozen
        have q1 := limbs_get b i lb
        have q2 := limbs_get a i la
        have q4 := hm.car
        obtain ⟨t, ht⟩ : ∃ t, t = carry + b.getD i 0 + (if i < a.length then a.getD i 0 else 0) := ⟨_, rfl⟩
        obtain ⟨lo, hlo⟩ : ∃ lo, lo = t % 4294967296 := ⟨_, rfl⟩
        obtain ⟨up, hup⟩ : ∃ up, up = t / 4294967296 := ⟨_, rfl⟩
        have HM : Hid (AddTo b a (i + 1) (c.set i lo) up) := add_step hm hip lb la t lo up ht hlo hup
        have HR : Hid (RowAt (wr.setCell ⟨w.heap.size, i, none⟩ (.int .u32 (lo : Int))) w.heap.size (c.set i lo)) := hrow.set _ _
        have HB : Hid (Below w.heap.size w (wr.setCell ⟨w.heap.size, i, none⟩ (.int .u32 (lo : Int)))) := hbel.setCell (Nat.le_refl _) _
        by_cases hiq : i < a.length
        · obtain ⟨b2, rfl, hb2, hat2⟩ := HPA.out (ne_nil_of_lt hiq)
          have x2 := limb_at hat2 hb2 hbel i hiq
          rw [if_pos hiq] at ht
          clear hm hrow hbel hat1 hat2
          generalize b.getD i 0 = X at *
          generalize a.getD i 0 = Y at *
          generalize c.getD i 0 = C at *
          have k1 : (carry : Int) + (X : Int) + (Y : Int) = (t : Int) := by omega
          have k2 : (t : Int) % 4294967296 = (lo : Int) := by omega
          have k3 : (t : Int) / 4294967296 = (up : Int) := by omega
          clear ht hlo hup
          go_wp2_with fail
          go_roundw
          case rel => exact ⟨i + 1, _, up, by go_num, rfl, by omega, HM.out, HR.out, HB.out⟩
          case measure => simp [intOf]; omega
        · rw [if_neg hiq] at ht
          clear hm hrow hbel hat1
          generalize b.getD i 0 = X at *
          generalize c.getD i 0 = C at *
          have k1 : (carry : Int) + (X : Int) = (t : Int) := by omega
          have k2 : (t : Int) % 4294967296 = (lo : Int) := by omega
          have k3 : (t : Int) / 4294967296 = (up : Int) := by omega
          clear ht hlo hup
          go_wp2_with fail
          go_roundw
          case rel => exact ⟨i + 1, _, up, by go_num, rfl, by omega, HM.out, HR.out, HB.out⟩
          case measure => simp [intOf]; omega
      · have hie : i = b.length := by omega
        subst hie
        have hcl : b.length < c.length := by rw [hm.len]; omega
        have x3 := hrow.cell _ hcl
        have x4 := hrow.frozen
        have q4 := hm.car
        obtain ⟨hv, hlim⟩ := add_end hm (by omega)
        have HV2 : Hid (valL (c.set b.length carry) = valL b + valL a) := hv
        have hrow2 := hrow.set b.length carry
        have hlen2 : (c.set b.length carry).length = b.length + 1 := by simp [hm.len]
        have hT := trim_new w.heap.size (b.length + 1) (c.set b.length carry) (B1 + B2 + 1) (by rw [hlen2]; omega) (by omega) (by rw [hlen2]; exact Nat.le_refl _) hlim _ hrow2.lt hrow2.limbs
        rw [hlen2] at hT
        have HTN : Hid (Calls Oajg.prog 112 #[.slice (some ⟨w.heap.size, 0, none⟩) (b.length + 1) (b.length + 1)] (wr.setCell ⟨w.heap.size, b.length, none⟩ (.int .u32 (carry : Int))) fun e w' => w' = (wr.setCell ⟨w.heap.size, b.length, none⟩ (.int .u32 (carry : Int))) ∧ ∃ v, e = .returned v ∧ NatIs (B1 + B2 + 1) (wr.setCell ⟨w.heap.size, b.length, none⟩ (.int .u32 (carry : Int))) v (valL (c.set b.length carry))) := hT
        have HB : Hid (Below w.heap.size w (wr.setCell ⟨w.heap.size, b.length, none⟩ (.int .u32 (carry : Int)))) := hbel.setCell (Nat.le_refl _) _
        clear hm hrow hbel hT hv hrow2 hlim hlen2
        generalize c.getD b.length 0 = C at *
        go_wp2_with fail
        refine Calls.mono HTN.out ?_
        rintro _ w0 ⟨hw, v, rfl, hN⟩
        rw [HV2.out] at hN
        have HN : Hid (NatIs (B1 + B2 + 1) w0 v (n + m)) := by rw [hw, ← HV'.out]; exact hN
        have HW : Hid (Below w.heap.size w w0) := by rw [hw]; exact HB.out
        clear hN hw
        go_wp2_with fail
        go_ret
        exact ⟨_, rfl, HN.out, HW.out⟩
  · have hsz : b.length ≤ a.length := by omega
    have hmk : ∀ w, (Instr.makeSlice 46 (.int .i64 ((a.length : Int) + 1)) (.int .i64 ((a.length : Int) + 1))).run Oajg.prog w = .ok (.slice (some ⟨w.heap.size, 0, none⟩) (a.length + 1) (a.length + 1)) (w.alloc (.cells (madeCells #[.int .u32 0] (a.length + 1)) 57)) := run_make_limbs (a.length + 1) (by omega)
    go_enter Oajg.func155, Oajg.ntmps155
    go_wp2_with fail
    refine Calls.mono HT1.out ?_
    rintro _ w0 ⟨rfl, hw⟩
    subst w0
    go_wp2_with fail
    refine Calls.mono HT2.out ?_
    rintro _ w0 ⟨rfl, hw⟩
    subst w0
    go_wp2_with fail
    clear HT1 HT2
    have HB0 : Hid (Below w.heap.size w (w.alloc (.cells (madeCells #[.int .u32 0] (a.length + 1)) 57))) := (Below.refl _ _).alloc (Nat.le_refl _) _
    go_loopw [25, 6] (fun ci cc wr => ∃ i c carry, ci = .int .i64 (i : Nat) ∧ cc = .int .u64 (carry : Nat) ∧ i ≤ a.length ∧ AddTo a b i c carry ∧ RowAt wr w.heap.size c ∧ Below w.heap.size w wr) (fun ci _ _ => a.length - (intOf ci).toNat)
    case atStart => exact ⟨0, _, 0, rfl, rfl, Nat.zero_le _, add0 a b, RowAt.made _ _, HB0.out⟩
    case round =>
      clear HB0
      obtain ⟨i, c, carry, rfl, rfl, hi, hm, hrow, hbel⟩ := hrel
      by_cases hip : i < a.length
      · obtain ⟨b1, rfl, hb1, hat1⟩ := HPA.out (ne_nil_of_lt hip)
        have x1 := limb_at hat1 hb1 hbel i hip
        have hcl : i < c.length := by rw [hm.len]; omega
        have x3 := hrow.cell i hcl
        have x4 := hrow.frozen
        have q1 := limbs_get a i la
        have q2 := limbs_get b i lb
        have q4 := hm.car
        obtain ⟨t, ht⟩ : ∃ t, t = carry + a.getD i 0 + (if i < b.length then b.getD i 0 else 0) := ⟨_, rfl⟩
        obtain ⟨lo, hlo⟩ : ∃ lo, lo = t % 4294967296 := ⟨_, rfl⟩
        obtain ⟨up, hup⟩ : ∃ up, up = t / 4294967296 := ⟨_, rfl⟩
        have HM : Hid (AddTo a b (i + 1) (c.set i lo) up) := add_step hm hip la lb t lo up ht hlo hup
        have HR : Hid (RowAt (wr.setCell ⟨w.heap.size, i, none⟩ (.int .u32 (lo : Int))) w.heap.size (c.set i lo)) := hrow.set _ _
        have HB : Hid (Below w.heap.size w (wr.setCell ⟨w.heap.size, i, none⟩ (.int .u32 (lo : Int)))) := hbel.setCell (Nat.le_refl _) _
        by_cases hiq : i < b.length
        · obtain ⟨b2, rfl, hb2, hat2⟩ := HPB.out (ne_nil_of_lt hiq)
          have x2 := limb_at hat2 hb2 hbel i hiq
          rw [if_pos hiq] at ht
          clear hm hrow hbel hat1 hat2
          generalize a.getD i 0 = X at *
          generalize b.getD i 0 = Y at *
          generalize c.getD i 0 = C at *
          have k1 : (carry : Int) + (X : Int) + (Y : Int) = (t : Int) := by omega
          have k2 : (t : Int) % 4294967296 = (lo : Int) := by omega
          have k3 : (t : Int) / 4294967296 = (up : Int) := by omega
          clear ht hlo hup
          go_wp2_with fail
          go_roundw
          case rel => exact ⟨i + 1, _, up, by go_num, rfl, by omega, HM.out, HR.out, HB.out⟩
          case measure => simp [intOf]; omega
        · rw [if_neg hiq] at ht
          clear hm hrow hbel hat1
          generalize a.getD i 0 = X at *
          generalize c.getD i 0 = C at *
          have k1 : (carry : Int) + (X : Int) = (t : Int) := by omega
          have k2 : (t : Int) % 4294967296 = (lo : Int) := by omega
          have k3 : (t : Int) / 4294967296 = (up : Int) := by omega
          clear ht hlo hup
          go_wp2_with fail
          go_roundw
          case rel => exact ⟨i + 1, _, up, by go_num, rfl, by omega, HM.out, HR.out, HB.out⟩
          case measure => simp [intOf]; omega
      · have hie : i = a.length := by omega
        subst hie
        have hcl : a.length < c.length := by rw [hm.len]; omega
        have x3 := hrow.cell _ hcl
        have x4 := hrow.frozen
        have q4 := hm.car
        obtain ⟨hv, hlim⟩ := add_end hm (by omega)
        have HV2 : Hid (valL (c.set a.length carry) = valL a + valL b) := hv
        have hrow2 := hrow.set a.length carry
        have hlen2 : (c.set a.length carry).length = a.length + 1 := by simp [hm.len]
        have hT := trim_new w.heap.size (a.length + 1) (c.set a.length carry) (B1 + B2 + 1) (by rw [hlen2]; omega) (by omega) (by rw [hlen2]; exact Nat.le_refl _) hlim _ hrow2.lt hrow2.limbs
        rw [hlen2] at hT
        have HTN : Hid (Calls Oajg.prog 112 #[.slice (some ⟨w.heap.size, 0, none⟩) (a.length + 1) (a.length + 1)] (wr.setCell ⟨w.heap.size, a.length, none⟩ (.int .u32 (carry : Int))) fun e w' => w' = (wr.setCell ⟨w.heap.size, a.length, none⟩ (.int .u32 (carry : Int))) ∧ ∃ v, e = .returned v ∧ NatIs (B1 + B2 + 1) (wr.setCell ⟨w.heap.size, a.length, none⟩ (.int .u32 (carry : Int))) v (valL (c.set a.length carry))) := hT
        have HB : Hid (Below w.heap.size w (wr.setCell ⟨w.heap.size, a.length, none⟩ (.int .u32 (carry : Int)))) := hbel.setCell (Nat.le_refl _) _
        clear hm hrow hbel hT hv hrow2 hlim hlen2
        generalize c.getD a.length 0 = C at *
        go_wp2_with fail
        refine Calls.mono HTN.out ?_
        rintro _ w0 ⟨hw, v, rfl, hN⟩
        rw [HV2.out] at hN
        have HN : Hid (NatIs (B1 + B2 + 1) w0 v (n + m)) := by rw [hw, ← HV.out]; exact hN
        have HW : Hid (Below w.heap.size w w0) := by rw [hw]; exact HB.out
        clear hN hw
        go_wp2_with fail
        go_ret
        exact ⟨_, rfl, HN.out, HW.out⟩

end Go.Proofs.Ygcoaj
