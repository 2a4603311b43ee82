/-
  WALKS: nat.Shr (by less than 32).
-/
import Derived.Test.YgcoajNat7
set_option linter.unusedVariables false
set_option linter.unusedSimpArgs false
namespace Go.Proofs.Ygcoaj
open Go.RowKit

theorem valL_drop (l : List Nat) (i : Nat) : valL (l.drop i) = l.getD i 0 + 4294967296 * valL (l.drop (i + 1)) := by
  by_cases hi : i < l.length
  · rw [List.drop_eq_getElem_cons hi, List.getD_eq_getElem?_getD, List.getElem?_eq_getElem hi]
    rfl
  · rw [List.drop_of_length_le (by omega), List.drop_of_length_le (by omega), List.getD_eq_getElem?_getD, List.getElem?_eq_none (by omega)]
    rfl
theorem valL_div (l : List Nat) (i : Nat) (h : Limbs l) : valL l / 4294967296 ^ i = valL (l.drop i) := by
  by_cases hi : i ≤ l.length
  · have h1 := take_lt l i h hi
    have e : valL l = valL (l.take i) + 4294967296 ^ i * valL (l.drop i) := by
      conv => lhs; rw [← List.take_append_drop i l, valL_append]
      rw [List.length_take, Nat.min_eq_left hi]
    rw [e, Nat.add_mul_div_left _ _ (Nat.pow_pos (by decide)), Nat.div_eq_of_lt h1, Nat.zero_add]
  · rw [List.drop_of_length_le (by omega)]
    have h1 := valL_lt l h
    have h2 : 4294967296 ^ l.length ≤ 4294967296 ^ i := Nat.pow_le_pow_right (by decide) (by omega)
    exact Nat.div_eq_of_lt (by omega)
theorem shr_digit {l : List Nat} {i K : Nat} (h : Limbs l) (hK : K ≤ 32) : (l.getD i 0 + l.getD (i + 1) 0 * 4294967296) / 2 ^ K % 4294967296 = valL l / 2 ^ K / 4294967296 ^ i % 4294967296 := by
  rw [Nat.div_div_eq_div_mul, Nat.mul_comm (2 ^ K), ← Nat.div_div_eq_div_mul, valL_div l i h, valL_drop l i, valL_drop l (i + 1)]
  generalize valL (l.drop (i + 1 + 1)) = R
  generalize l.getD i 0 = X
  generalize l.getD (i + 1) 0 = Y
  have h32 := pow32 K hK
  have e : X + 4294967296 * (Y + 4294967296 * R) = (X + Y * 4294967296) + 2 ^ K * (4294967296 * (2 ^ (32 - K) * R)) := by
    have : 4294967296 * (4294967296 * R) = 2 ^ K * (4294967296 * (2 ^ (32 - K) * R)) := by
      conv => lhs; rw [h32]
      rw [← h32]
      grind
    rw [← this, Nat.mul_add]
    omega
  rw [e, Nat.add_mul_div_left _ _ (Nat.pow_pos (by decide)), Nat.add_mul_mod_self_left]

theorem digits_val : ∀ (c : List Nat) (x : Nat), (∀ j, j < c.length → c.getD j 0 = x / 4294967296 ^ j % 4294967296) → valL c = x % 4294967296 ^ c.length
  | [], x, _ => by simp [valL, Nat.mod_one]
  | y :: c, x, h => by
    have h0 := h 0 (by simp)
    simp only [List.getD_cons_zero, Nat.pow_zero, Nat.div_one] at h0
    have ih := digits_val c (x / 4294967296) fun j hj => by
      have := h (j + 1) (by simpa using hj)
      rw [List.getD_cons_succ, Nat.pow_succ, Nat.mul_comm, ← Nat.div_div_eq_div_mul] at this
      exact this
    rw [valL, ih, h0, List.length_cons, Nat.pow_succ, Nat.mul_comm (4294967296 ^ c.length), Nat.mod_mul]

theorem or32r (r x : Nat) (hr : r < 4294967296) (hx : x < 4294967296) : bits .or .u64 (x : Int) ((r : Int) * 4294967296) = ((x + r * 4294967296 : Nat) : Int) := by
  have e : bits .or .u64 (x : Int) ((r * 4294967296 : Nat) : Int) = ((x ||| r * 4294967296 : Nat) : Int) := u64_or_nat _ _ (by omega) (by omega)
  rw [Nat.or_comm, nat_join 32 (r * 4294967296) x (by omega) (by omega), Nat.add_comm] at e
  rw [← e]; congr 1

set_option maxRecDepth 100000 in
set_option maxHeartbeats 2000000 in
theorem shr_ok (B : Nat) (v : Value) (n K : Nat) (w : World) (hB : B ≤ 1073741824) (hK : K ≤ 31) (HT : Hid (Calls Oajg.prog 112 #[v] w fun e w' => w' = w ∧ ∃ v', e = .returned v' ∧ NatIs B w v' n)) :
    Calls Oajg.prog 115 #[v, .int .u16 (K : Int)] w fun e w' => ∃ ad k c lo, e = .returned (.tuple #[.slice ad k c, .bool lo]) ∧ NatIs B w' (.slice ad k c) (n / 2 ^ K) ∧ Below w.heap.size w w' := by
  have kd : (K : Int) / 32 = 0 := by omega
  have km : (K : Int) % 32 = (K : Int) := by omega
  have kd2 : (K : Int).tdiv 32 = 0 := by rw [Int.tdiv_eq_ediv_of_nonneg (by omega)]; omega
  have km2 : (K : Int).tmod 32 = (K : Int) := by rw [Int.tmod_eq_emod_of_nonneg (by omega)]; omega
  go_enter Oajg.func115, Oajg.ntmps115
  go_wp2_with fail
  refine Calls.mono HT.out ?_
  rintro _ w0 ⟨hw, v', rfl, hN⟩
  subst w0
  by_cases hn : n = 0
  · subst hn
    have hv := hN.of_zero
    subst hv
    have HN : Hid (NatIs B w (.slice none 0 0) (0 / 2 ^ K)) := by rw [Nat.zero_div]; exact natIs_nil _ _
    clear hN HT
    go_wp2_with fail
    refine wp_loop_rounds 1 ?_
    rw [rounds_succ]
    go_wp2_with fail
    go_ret2
    exact ⟨_, _, _, _, rfl, HN.out, Below.refl _ _⟩
  · obtain ⟨l, b, cap, h1, h2, h3, h4, h5, rfl, h7, h8, h9⟩ := hN.of_pos hn
    have hpos := List.length_pos_iff.2 h5
    have hmk := run_make_limbs l.length (by omega)
    have x0 := h9 0 _ (get_some l 0 hpos)
    rw [Nat.zero_add] at x0
    unfold lv at x0
    have hp31 : 2 ^ K ≤ 2 ^ 31 := Nat.pow_le_pow_right (by decide) hK
    have hp1 : 1 ≤ 2 ^ K := Nat.one_le_two_pow
    obtain ⟨P, hP⟩ : ∃ P, P = 2 ^ K := ⟨_, rfl⟩
    have kp : (2 : Int) ^ K = (P : Int) := by rw [hP]; push_cast; rfl
    rw [← hP] at hp31 hp1
    have kw : IntKind.u32.wrap (P : Int) = (P : Int) := by rw [IntKind.wrap_u32]; omega
    have kw1 : IntKind.u32.wrap ((P : Int) - 1) = (P : Int) - 1 := by rw [IntKind.wrap_u32]; omega
    have HAT : Hid (LimbsAt w b 0 l) := h9
    obtain ⟨lo, hlo⟩ : ∃ lo, lo = (bits .and .u32 ((l.getD 0 0 : Nat) : Int) ((P : Int) - 1) != 0) := ⟨_, rfl⟩
    have HB0 : Hid (Below w.heap.size w (w.alloc (.cells (madeCells #[.int .u32 0] l.length) 57))) := (Below.refl _ _).alloc (Nat.le_refl _) _
    have HV : Hid (valL l = n) := h1
    have HP : Hid (P = 2 ^ K) := hP
    have hz1 : decide (l.length = 0) = false := by rw [decide_eq_false_iff_not]; omega
    have hz2 : ¬ l.length = 0 := by omega
    clear hN HT h1 h3 h9 hn hP
    generalize l.getD 0 0 = X0 at *
    go_wp2_with fail
    refine wp_loop_rounds 1 ?_
    rw [rounds_succ]
    go_wp2_with fail
    go_quiet (fail)
    go_wp2_with fail
    go_loopw [62] (fun ci wr => ∃ i c, ci = .int .i64 (i : Nat) ∧ i ≤ l.length ∧ c.length = l.length ∧ Limbs c ∧ (∀ j, j < i → c.getD j 0 = n / 2 ^ K / 4294967296 ^ j % 4294967296) ∧ RowAt wr (w.heap.size) c ∧ Below w.heap.size w wr) (fun ci _ => l.length - (intOf ci).toNat)
    case atStart => exact ⟨0, _, rfl, Nat.zero_le _, by simp, limbs_zero _, fun j hj => absurd hj (Nat.not_lt_zero _), RowAt.made _ _, below_drewN HB0.out _⟩
    case round =>
      clear HB0 x0 hlo kw kw1
      obtain ⟨i, c, rfl, hi, hcl, hlim, hdig, hrow, hbel⟩ := hrel
      by_cases hil : i < l.length
      · have hic : i < c.length := by omega
        have x1 := limb_at HAT.out h8 hbel i hil
        have x3 := hrow.cell i hic
        have x4 := hrow.frozen
        have hxb := limbs_get l i h2
        have hyb := limbs_get l (i + 1) h2
        have hsd := shr_digit (i := i) h2 (show K ≤ 32 by omega)
        rw [HV.out] at hsd
        obtain ⟨t, ht⟩ : ∃ t, t = l.getD i 0 + l.getD (i + 1) 0 * 4294967296 := ⟨_, rfl⟩
        rw [← ht] at hsd
        have k1 := or32r (l.getD (i + 1) 0) (l.getD i 0) hyb hxb
        rw [← ht] at k1
        have ht64 : t < 18446744073709551616 := by omega
        obtain ⟨Z, hZ⟩ : ∃ Z, Z = t / P := ⟨_, rfl⟩
        have k2 : (t : Int) / (P : Int) = (Z : Int) := by rw [hZ]; rfl
        have hZ64 : Z < 18446744073709551616 := by have := Nat.div_le_self t P; omega
        rw [← HP.out, ← hZ] at hsd
        rw [HP.out] at hsd
        have HM : Hid (∀ j, j < i + 1 → (c.set i (Z % 4294967296)).getD j 0 = n / 2 ^ K / 4294967296 ^ j % 4294967296) := by
          intro j hj
          by_cases hji : j = i
          · subst hji; rw [getD_set_same _ _ _ hic]; rw [hsd]
          · rw [getD_set_ne' _ _ _ _ (by omega)]; exact hdig j (by omega)
        have HR : Hid (RowAt (wr.setCell ⟨w.heap.size, i, none⟩ (.int .u32 ((Z % 4294967296 : Nat) : Int))) w.heap.size (c.set i (Z % 4294967296))) := hrow.set _ _
        have HB : Hid (Below w.heap.size w (wr.setCell ⟨w.heap.size, i, none⟩ (.int .u32 ((Z % 4294967296 : Nat) : Int)))) := hbel.setCell (Nat.le_refl _) _
        have HL : Hid (Limbs (c.set i (Z % 4294967296))) := limbs_set _ _ _ hlim (Nat.mod_lt _ (by decide))
        have hcl2 : Hid ((c.set i (Z % 4294967296)).length = l.length) := by show _ = _; simpa using hcl
        by_cases hil2 : i + 1 < l.length
        · have x2 := limb_at HAT.out h8 hbel (i + 1) hil2
          clear hrow hbel hlim hdig hsd ht hZ hcl
          generalize l.getD i 0 = X at *
          generalize l.getD (i + 1) 0 = Y at *
          generalize c.getD i 0 = C at *
          go_wp2_with fail
          go_roundw
          case rel => exact ⟨i + 1, _, by go_num, by omega, hcl2.out, HL.out, HM.out, HR.out, HB.out⟩
          case measure => simp [intOf]; omega
        · have hY0 : l.getD (i + 1) 0 = 0 := by rw [List.getD_eq_getElem?_getD, List.getElem?_eq_none (by omega)]; rfl
          have htX : t = l.getD i 0 := by rw [ht, hY0]; omega
          have k2' : ((l.getD i 0 : Nat) : Int) / (P : Int) = (Z : Int) := by rw [← htX]; exact k2
          clear hrow hbel hlim hdig hsd ht hZ hcl k1 k2 hY0 htX hyb
          generalize l.getD i 0 = X at *
          generalize c.getD i 0 = C at *
          go_wp2_with fail
          go_roundw
          case rel => exact ⟨i + 1, _, by go_num, by omega, hcl2.out, HL.out, HM.out, HR.out, HB.out⟩
          case measure => simp [intOf]; omega
      · have hie : i = l.length := by omega
        subst hie
        have hv := digits_val c (n / 2 ^ K) (by rw [hcl]; exact hdig)
        have hnlt : n / 2 ^ K < 4294967296 ^ c.length := by
          have h5 := valL_lt l h2
          rw [HV.out] at h5
          have := Nat.div_le_self n (2 ^ K)
          rw [hcl]; omega
        rw [Nat.mod_eq_of_lt hnlt] at hv
        have hT := trim_new w.heap.size l.length c B (by rw [hcl]; omega) (by omega) (by rw [hcl]; exact Nat.le_refl _) hlim _ hrow.lt hrow.limbs
        rw [hcl, hv] at hT
        have HTN : Hid (Calls Oajg.prog 112 #[.slice (some ⟨w.heap.size, 0, none⟩) l.length l.length] wr fun e w' => w' = wr ∧ ∃ v, e = .returned v ∧ NatIs B wr v (n / 2 ^ K)) := hT
        have HB : Hid (Below w.heap.size w wr) := hbel
        clear hrow hbel hT hlim hdig hv hnlt hcl
        go_wp2_with fail
        refine Calls.mono HTN.out ?_
        rintro _ w0 ⟨hw, v, rfl, hN⟩
        subst w0
        obtain ⟨ad, k, cc, rfl⟩ : ∃ ad k c, v = .slice ad k c := by
          obtain ⟨l', _, _, _, _, hh⟩ := hN
          rcases hh with ⟨_, rfl⟩ | ⟨_, b', cap', rfl, _⟩
          · exact ⟨_, _, _, rfl⟩
          · exact ⟨_, _, _, rfl⟩
        have HN : Hid (NatIs B wr (.slice ad k cc) (n / 2 ^ K)) := hN
        clear hN
        go_wp2_with fail
        go_ret2
        exact ⟨_, _, _, _, rfl, HN.out, HB.out⟩

end Go.Proofs.Ygcoaj
