/-
  WALKS: nat.FromU64, nat.lift, nat.Shl.
-/
import Derived.Test.YgcoajNatP
set_option linter.unusedVariables false
set_option linter.unusedSimpArgs false
namespace Go.Proofs.Ygcoaj
open Go.RowKit

theorem limbsAt_two (w : World) (x y : Nat) (T : TypeId) : LimbsAt (w.alloc (.cells #[lv x, lv y] T)) w.heap.size 0 [x, y] := by
  intro j z hj
  match j, hj with
  | 0, hj => simp at hj; subst hj; simp [go_sem]
  | 1, hj => simp at hj; subst hj; simp [go_sem]

set_option maxRecDepth 100000 in
set_option maxHeartbeats 1000000 in
theorem fromU64_any (x : Int) (h0 : 0 ≤ x) (h1 : x ≤ 18446744073709551615) (w : World) :
    Calls Oajg.prog 60 #[.int .u64 x] w fun e w' => ∃ v, e = .returned v ∧ NatIs 2 w' v x.toNat ∧ Below w.heap.size w w' := by
  obtain ⟨X, rfl⟩ := Int.eq_ofNat_of_zero_le h0
  rw [Int.toNat_natCast]
  have HT : Hid _ := trim_new w.heap.size 2 [X % 4294967296, X / 4294967296] 2 (by simp) (by decide) (by simp) (by intro y hy; simp at hy; omega) (w.alloc (.cells #[lv (X % 4294967296), lv (X / 4294967296)] 57)) (by simp) (limbsAt_two _ _ _ _)
  have e1 : lv (X % 4294967296) = .int .u32 ((X : Int) % 4294967296) := by unfold lv; congr 1
  have e2 : lv (X / 4294967296) = .int .u32 ((X : Int) / 4294967296) := by unfold lv; congr 1
  rw [e1, e2] at HT
  clear e1 e2
  have hv : valL [X % 4294967296, X / 4294967296] = X := by simp only [valL]; omega
  have HV : Hid _ := hv
  clear hv
  go_enter Oajg.func60, Oajg.ntmps60
  go_wp2_with fail
  refine Calls.mono HT.out ?_
  rintro e w1 ⟨rfl, v, rfl, hN⟩
  rw [HV.out] at hN
  have HN : Hid _ := hN
  clear hN
  go_wp2_with fail
  go_ret
  exact ⟨_, rfl, HN.out, (Below.refl _ _).alloc (Nat.le_refl _) _⟩


set_option maxRecDepth 100000 in
set_option maxHeartbeats 1000000 in
theorem lift_zero (w : World) (k : Int) : Calls Oajg.prog 130 #[.slice none 0 0, .int .i64 k] w fun e w' => e = .returned (.slice none 0 0) ∧ w' = w := by
  have hnil := eql_nil
  go_enter Oajg.func130, Oajg.ntmps130
  go_wp2_with (go_at_call 112; refine (trim_nil _).mono ?_; rintro e w1 ⟨rfl, rfl⟩)
  go_ret
  exact ⟨rfl, rfl⟩

set_option maxRecDepth 100000 in
set_option maxHeartbeats 1000000 in
theorem lift_pos (B : Nat) (l : List Nat) (b cap K L Bt : Nat) (h2 : Limbs l) (h3 : NormL l) (h4 : l.length ≤ B) (h5 : l ≠ []) (h7 : l.length ≤ cap) (w : World) (h8 : b < w.heap.size) (h9 : LimbsAt w b 0 l)
    (hB : B ≤ 1073741824) (hK : K ≤ 1073741824) (hL : (K : Int) / 32 = (L : Int)) (hBt : (K : Int) % 32 = (Bt : Int)) :
    Calls Oajg.prog 130 #[.slice (some ⟨b, 0, none⟩) l.length cap, .int .i64 (K : Int)] w fun e w' => ∃ v, e = .returned v ∧ NatIs (B + L + 1) w' v (valL l * 2 ^ Bt * 4294967296 ^ L) ∧ Below w.heap.size w w' := by
  have HT : Hid _ := trim_norm (v := .slice (some ⟨b, 0, none⟩) l.length cap) (n := valL l) (B := B) w ⟨l, rfl, h2, h3, h4, Or.inr ⟨h5, b, cap, rfl, h7, h8, h9⟩⟩ (by omega)
  have hLb : (L : Int) ≤ 33554432 := by omega
  have hBb : (Bt : Int) ≤ 31 := by omega
  have hmk : ∀ w, (Instr.makeSlice 46 (.int .i64 ((l.length : Int) + L + 1)) (.int .i64 ((l.length : Int) + L + 1))).run Oajg.prog w = .ok (.slice (some ⟨w.heap.size, 0, none⟩) (l.length + L + 1) (l.length + L + 1)) (w.alloc (.cells (madeCells #[.int .u32 0] (l.length + L + 1)) 57)) := run_make_limbs (l.length + L + 1) (by omega)
  have hnil := eql_nil
  have hpos : 0 < l.length := List.length_pos_iff.2 h5
  have HAT : Hid (LimbsAt w b 0 l) := h9
  clear h9
  go_enter Oajg.func130, Oajg.ntmps130
  go_wp2_with (go_at_call 112; refine Calls.mono HT.out ?_; rintro e w1 ⟨rfl, rfl⟩)
  have HB0 : Hid (Below w1.heap.size w1 (w1.alloc (.cells (madeCells #[.int .u32 0] (l.length + L + 1)) 57))) := (Below.refl _ _).alloc (Nat.le_refl _) _
  go_loopw [27] (fun ci wr => ∃ i c, ci = .int .i64 (i : Nat) ∧ i ≤ l.length ∧ LiftTo l L Bt i c ∧ RowAt wr w1.heap.size c ∧ Below w1.heap.size w1 wr) (fun ci _ => l.length - (intOf ci).toNat)
  case atStart => exact ⟨0, _, rfl, Nat.zero_le _, lift0 l L Bt, RowAt.made _ _, HB0.out⟩
  case round =>
    obtain ⟨i, c, rfl, hi, hlt, hrow, hbel⟩ := hrel
    by_cases hil : i < l.length
    · have hx : wr.cell? ⟨b, i, none⟩ = some (.int .u32 (l.getD i 0 : Nat)) := by
        rw [hbel.cell (p := ⟨b, i, none⟩) h8]
        have := HAT.out i _ (get_some l i hil)
        rw [Nat.zero_add] at this
        exact this
      have hxb := limbs_get l i h2
      generalize hX : l.getD i 0 = X at hx hxb
      have HX : Hid (l.getD i 0 = X) := hX
      have hBt32 : Bt < 32 := by omega
      have hWl : X * 2 ^ Bt < 18446744073709551616 := by
        have h1 : X * 2 ^ Bt ≤ X * 2 ^ 31 := Nat.mul_le_mul_left _ (Nat.pow_le_pow_right (by decide) (by omega))
        omega
      obtain ⟨W, hW⟩ : ∃ W, W = X * 2 ^ Bt := ⟨_, rfl⟩
      obtain ⟨lo, hlo⟩ : ∃ lo, lo = W % 4294967296 := ⟨_, rfl⟩
      obtain ⟨up, hup⟩ : ∃ up, up = W / 4294967296 := ⟨_, rfl⟩
      obtain ⟨g1, g2, g3, g4⟩ := lift_step l L Bt i c hlt hil hBt32 h2 lo up X hX.symm (by rw [← hW]; omega) (by omega)
      have hW64 : W < 18446744073709551616 := by rw [hW]; exact hWl
      have k0 : (X : Int) * 2 ^ Bt = (W : Int) := by rw [hW]; push_cast; rfl
      have k1 : IntKind.u64.wrap ((X : Int) * 2 ^ Bt) = (W : Int) := by rw [IntKind.wrap_u64, k0]; omega
      have k2 : (W : Int) % 4294967296 = (lo : Int) := by omega
      have k3 : (W : Int) / 4294967296 = (up : Int) := by omega
      have hcl : i + L < c.length := by rw [hlt.len]; omega
      have hcl2 : i + L + 1 < c.length := by rw [hlt.len]; omega
      have m1 := hrow.cell (i + L) hcl
      have m2 := hrow.cell (i + L + 1) hcl2
      have m3 := hrow.frozen
      have HR : Hid (RowAt ((wr.setCell ⟨w1.heap.size, i + L, none⟩ (.int .u32 ((c.getD (i + L) 0 + lo : Nat) : Int))).setCell ⟨w1.heap.size, i + L + 1, none⟩ (.int .u32 (up : Int))) w1.heap.size ((c.set (i + L) (c.getD (i + L) 0 + lo)).set (i + L + 1) up)) := (hrow.set _ _).set _ _
      have HB : Hid (Below w1.heap.size w1 ((wr.setCell ⟨w1.heap.size, i + L, none⟩ (.int .u32 ((c.getD (i + L) 0 + lo : Nat) : Int))).setCell ⟨w1.heap.size, i + L + 1, none⟩ (.int .u32 (up : Int)))) := (hbel.setCell (Nat.le_refl _) _).setCell (Nat.le_refl _) _
      have k4 : bits .or .u32 ((c.getD (i + L) 0 : Nat) : Int) (lo : Int) = ((c.getD (i + L) 0 : Nat) : Int) + (lo : Int) := by
        rw [u32_or_nat _ _ (limbs_get c _ hlt.lim) (by omega), g1]; push_cast; rfl
      have HL : Hid _ := g4
      have k5 := limbs_get c (i + L) hlt.lim
      clear hX hlt hrow hbel g1 g4 hW hlo hup k0 hWl
      push_cast at HR HB
      generalize c.getD (i + L) 0 = C at *
      generalize c.getD (i + L + 1) 0 = C1 at *
      go_wp2
      go_roundw
      case rel => exact ⟨i + 1, _, by go_num, by omega, HL.out, HR.out, HB.out⟩
      case measure => simp [intOf]; omega
    · have hie : i = l.length := by omega
      subst hie
      have hv := hlt.val
      rw [take_all' l _ hil] at hv
      have HV : Hid _ := hv
      have hT := trim_new w1.heap.size (l.length + L + 1) c (B + L + 1) (by rw [hlt.len]; omega) (by omega) (by rw [hlt.len]; exact Nat.le_refl _) hlt.lim wr hrow.lt hrow.limbs
      rw [hlt.len] at hT
      have HTN : Hid _ := hT
      have HB : Hid _ := hbel
      clear hlt hrow hbel hT hv
      go_wp2_with (go_at_call 112; refine Calls.mono HTN.out ?_; rintro e w2 ⟨rfl, v, rfl, hN⟩; rw [HV.out] at hN; have HN : Hid _ := hN; clear hN)
      go_ret
      exact ⟨_, rfl, HN.out, HB.out⟩

theorem pow_split (K L Bt : Nat) (h : K = 32 * L + Bt) : 2 ^ K = 2 ^ Bt * 4294967296 ^ L := by
  rw [h, Nat.pow_add, Nat.pow_mul, show (2 : Nat) ^ 32 = 4294967296 from rfl, Nat.mul_comm]

/-- nat.lift -/
theorem lift_any (B : Nat) (v : Value) (n : Nat) (K : Nat) (w : World) (h : NatIs B w v n) (hB : B ≤ 1073741824) (hK : K ≤ 1073741824) :
    Calls Oajg.prog 130 #[v, .int .i64 (K : Int)] w fun e w' => ∃ v', e = .returned v' ∧ NatIs (B + K / 32 + 1) w' v' (n * 2 ^ K) ∧ Below w.heap.size w w' := by
  by_cases hn : n = 0
  · subst hn
    rw [h.of_zero]
    refine (lift_zero w _).mono ?_
    rintro e w' ⟨rfl, rfl⟩
    exact ⟨_, rfl, by rw [Nat.zero_mul]; exact natIs_nil _ _, Below.refl _ _⟩
  · obtain ⟨l, b, cap, h1, h2, h3, h4, h5, rfl, h7, h8, h9⟩ := h.of_pos hn
    have := lift_pos B l b cap K (K / 32) (K % 32) h2 h3 h4 h5 h7 w h8 h9 hB hK (by omega) (by omega)
    rw [h1, Nat.mul_assoc, ← pow_split K (K / 32) (K % 32) (by omega)] at this
    exact this

set_option maxRecDepth 100000 in
set_option maxHeartbeats 1000000 in
theorem shl_any (B : Nat) (v : Value) (n : Nat) (k : Int) (w : World) (h : NatIs B w v n) (hB : B ≤ 1073741824) (h0 : 0 ≤ k) (h1 : k ≤ 65535) :
    Calls Oajg.prog 78 #[v, .int .u16 k] w fun e w' => ∃ v', e = .returned v' ∧ NatIs (B + 2048) w' v' (n * 2 ^ k.toNat) ∧ Below w.heap.size w w' := by
  obtain ⟨K, rfl⟩ := Int.eq_ofNat_of_zero_le h0
  rw [Int.toNat_natCast]
  have HL : Hid _ := lift_any B v n K w h hB (by omega)
  clear h
  go_enter Oajg.func78, Oajg.ntmps78
  go_wp2_with (go_at_call 130; refine Calls.mono HL.out ?_; rintro e w1 ⟨v', rfl, hN, hb⟩; have HN : Hid (NatIs (B + K / 32 + 1) w1 v' (n * 2 ^ K)) := hN; clear hN)
  go_ret
  exact ⟨_, rfl, HN.out.mono (by omega), by assumption⟩

end Go.Proofs.Ygcoaj
