/-
  WALKS: nat.Mul.
-/
import Derived.Test.YgcoajNat1
import Derived.Deep.QuietTactic
import Derived.BigQuiet
set_option linter.unusedVariables false
set_option linter.unusedSimpArgs false
namespace Go.Proofs.Ygcoaj
open Go.RowKit

set_option maxRecDepth 100000 in
set_option maxHeartbeats 2000000 in
theorem mul_any (B1 B2 : Nat) (v1 v2 : Value) (n m : Nat) (w : World) (h1 : NatIs B1 w v1 n) (h2 : NatIs B2 w v2 m) (hB1 : B1 ≤ 1073741824) (hB2 : B2 ≤ 1073741824) :
    Calls Oajg.prog 62 #[v1, v2] w fun e w' => ∃ v', e = .returned v' ∧ NatIs (B1 + B2) w' v' (n * m) ∧ Below w.heap.size w w' := by
  have HT1 : Hid (Calls Oajg.prog 112 #[v1] w fun e w' => e = .returned v1 ∧ w' = w) := trim_norm w h1 (by omega)
  have HT2 : Hid (Calls Oajg.prog 112 #[v2] w fun e w' => e = .returned v2 ∧ w' = w) := trim_norm w h2 (by omega)
  obtain ⟨a, ad1, cap1, rfl, e1, la, na, ba, pa⟩ := h1.open
  obtain ⟨b, ad2, cap2, rfl, e2, lb, nb, bb, pb⟩ := h2.open
  have HV : Hid (valL a * valL b = n * m) := by show valL a * valL b = n * m; rw [e1, e2]
  have HPA : Hid _ := pa
  have HPB : Hid _ := pb
  have hmk : ∀ w, (Instr.makeSlice 46 (.int .i64 ((a.length : Int) + b.length)) (.int .i64 ((a.length : Int) + b.length))).run Oajg.prog w = .ok (.slice (some ⟨w.heap.size, 0, none⟩) (a.length + b.length) (a.length + b.length)) (w.alloc (.cells (madeCells #[.int .u32 0] (a.length + b.length)) 57)) := run_make_limbs (a.length + b.length) (by omega)
  clear h1 h2 e1 e2 na nb pa pb
  go_enter Oajg.func62, Oajg.ntmps62
  go_wp2_with fail
  refine Calls.mono HT1.out ?_
  rintro _ w0 ⟨rfl, hw⟩
  subst w0
  go_wp2_with fail
  refine Calls.mono HT2.out ?_
  rintro _ w0 ⟨rfl, hw⟩
  subst w0
  go_wp2_with fail
  clear HT1 HT2
  have HB0 : Hid (Below w.heap.size w (w.alloc (.cells (madeCells #[.int .u32 0] (a.length + b.length)) 57))) := (Below.refl _ _).alloc (Nat.le_refl _) _
  go_loopw [21] (fun ci wr => ∃ i c, ci = .int .i64 (i : Nat) ∧ i ≤ a.length ∧ MulTo a b i c ∧ RowAt wr w.heap.size c ∧ Below w.heap.size w wr) (fun ci _ => a.length - (intOf ci).toNat)
  case atStart => exact ⟨0, _, rfl, Nat.zero_le _, mul0 a b, RowAt.made _ _, HB0.out⟩
  case round =>
    clear HB0
    obtain ⟨i, c, rfl, hi, hm, hrow, hbel⟩ := hrel
    by_cases hia : i < a.length
    · have HM : Hid (MulTo a b i c) := hm
      have HR : Hid (RowAt wr w.heap.size c) := hrow
      have HB : Hid (Below w.heap.size w wr) := hbel
      clear hm hrow hbel
      go_wp2_with fail
      go_loopw [26, 7] (fun cj cc wx => ∃ j c carry, cj = .int .i64 (j : Nat) ∧ cc = .int .u64 (carry : Nat) ∧ j ≤ b.length ∧ MulIn a b i j c carry ∧ RowAt wx w.heap.size c ∧ Below w.heap.size w wx) (fun cj _ _ => b.length - (intOf cj).toNat)
      case atStart => exact ⟨0, c, 0, rfl, rfl, Nat.zero_le _, mulIn0 HM.out, HR.out, HB.out⟩
      case round =>
        clear HM HR HB c
        obtain ⟨j, c, carry, rfl, rfl, hj, hm, hrow, hbel⟩ := hrel
        by_cases hjb : j < b.length
        · obtain ⟨b1, rfl, hb1, hat1⟩ := HPA.out (ne_nil_of_lt hia)
          obtain ⟨b2, rfl, hb2, hat2⟩ := HPB.out (ne_nil_of_lt hjb)
          have x1 := limb_at hat1 hb1 hbel i hia
          have x2 := limb_at hat2 hb2 hbel j hjb
          have hcl : i + j < c.length := by rw [hm.len]; omega
          have x3 := hrow.cell (i + j) hcl
          have x4 := hrow.frozen
          have q1 := limbs_get a i la
          have q2 := limbs_get b j lb
          have q3 := limbs_get c (i + j) hm.lim
          have q4 := hm.car
          obtain ⟨q5, q6⟩ := mul_bound carry _ _ _ q4 q1 q2 q3
          obtain ⟨t, ht⟩ : ∃ t, t = carry + (a.getD i 0 * b.getD j 0 + c.getD (i + j) 0) := ⟨_, rfl⟩
          obtain ⟨lo, hlo⟩ : ∃ lo, lo = t % 4294967296 := ⟨_, rfl⟩
          obtain ⟨up, hup⟩ : ∃ up, up = t / 4294967296 := ⟨_, rfl⟩
          have HM : Hid (MulIn a b i (j + 1) (c.set (i + j) lo) up) := mulIn_step hm hia hjb la lb t lo up ht hlo hup
          have HR : Hid (RowAt (wr.setCell ⟨w.heap.size, i + j, none⟩ (.int .u32 (lo : Int))) w.heap.size (c.set (i + j) lo)) := hrow.set _ _
          have HB : Hid (Below w.heap.size w (wr.setCell ⟨w.heap.size, i + j, none⟩ (.int .u32 (lo : Int)))) := hbel.setCell (Nat.le_refl _) _
          clear hm hrow hbel hat1 hat2
          generalize a.getD i 0 = X at *
          generalize b.getD j 0 = Y at *
          generalize c.getD (i + j) 0 = C at *
          have k1 : (carry : Int) + ((X : Int) * (Y : Int) + (C : Int)) = (t : Int) := by rw [ht]; push_cast; rfl
          have k2 : (t : Int) % 4294967296 = (lo : Int) := by omega
          have k3 : (t : Int) / 4294967296 = (up : Int) := by omega
          have k4 : t < 18446744073709551616 := by omega
          clear ht hlo hup
          go_wp2_with fail
          go_quiet (fail)
          go_wp2_with fail
          go_roundw
          case rel => exact ⟨j + 1, _, up, by go_num, rfl, by omega, HM.out, HR.out, below_drewN HB.out _⟩
          case measure => simp [intOf]; omega
        · have hje : j = b.length := by omega
          subst hje
          have hcl : i + b.length < c.length := by rw [hm.len]; omega
          have x3 := hrow.cell (i + b.length) hcl
          have x4 := hrow.frozen
          have HM : Hid (MulTo a b (i + 1) (c.set (i + b.length) carry)) := mul_next hm hia
          have HR : Hid (RowAt (wr.setCell ⟨w.heap.size, i + b.length, none⟩ (.int .u32 (carry : Int))) w.heap.size (c.set (i + b.length) carry)) := hrow.set _ _
          have HB : Hid (Below w.heap.size w (wr.setCell ⟨w.heap.size, i + b.length, none⟩ (.int .u32 (carry : Int)))) := hbel.setCell (Nat.le_refl _) _
          have q4 := hm.car
          clear hm hrow hbel
          generalize c.getD (i + b.length) 0 = C at *
          go_wp2_with fail
          go_roundw
          case rel => exact ⟨i + 1, _, by go_num, by omega, HM.out, HR.out, HB.out⟩
          case measure => simp [intOf]; omega
    · have hie : i = a.length := by omega
      subst hie
      have hv := hm.val
      rw [take_all' a _ hia] at hv
      have HV2 : Hid (valL c = valL a * valL b) := hv
      have hT := trim_new w.heap.size (a.length + b.length) c (B1 + B2) (by rw [hm.len]; omega) (by omega) (by rw [hm.len]; exact Nat.le_refl _) hm.lim wr hrow.lt hrow.limbs
      rw [hm.len] at hT
      have HTN : Hid (Calls Oajg.prog 112 #[.slice (some ⟨w.heap.size, 0, none⟩) (a.length + b.length) (a.length + b.length)] wr fun e w' => w' = wr ∧ ∃ v, e = .returned v ∧ NatIs (B1 + B2) wr v (valL c)) := hT
      have HB : Hid (Below w.heap.size w wr) := hbel
      clear hm hrow hbel hT hv
      go_wp2_with fail
      refine Calls.mono HTN.out ?_
      rintro _ w0 ⟨hw, v, rfl, hN⟩
      subst w0
      have HN : Hid (NatIs (B1 + B2) wr v (n * m)) := by rw [← HV.out, ← HV2.out]; exact hN
      clear hN
      go_wp2_with fail
      go_ret
      exact ⟨_, rfl, HN.out, HB.out⟩

end Go.Proofs.Ygcoaj
