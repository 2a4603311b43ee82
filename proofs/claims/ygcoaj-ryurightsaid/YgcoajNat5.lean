/-
  WALKS: nat.width32, BitLen, Bit, Take, Succ, Shr; exact.toU64.
-/
import Derived.Test.YgcoajDivP
import Derived.Laws.IdiomCopy
import Derived.BigQuiet
set_option linter.unusedVariables false
set_option linter.unusedSimpArgs false
namespace Go.Proofs.Ygcoaj
open Go.RowKit

theorem bitLen_half {y : Nat} (h : y ≠ 0) : bitLen y = bitLen (y / 2) + 1 := by
  by_cases h1 : y / 2 = 0
  · have : y = 1 := by omega
    subst this; decide
  · have h2 := bitLen_lt (y / 2)
    have h3 := bitLen_le h1
    have h4 := bitLen_pos h1
    obtain ⟨k, hk⟩ : ∃ k, bitLen (y / 2) = k + 1 := ⟨bitLen (y / 2) - 1, by omega⟩
    rw [hk] at h2 h3 ⊢
    simp only [Nat.add_sub_cancel] at h3
    rw [Nat.pow_succ] at h2
    refine bitLen_uniq ?_ ?_
    · rw [Nat.pow_succ]; omega
    · rw [Nat.pow_succ, Nat.pow_succ]; omega
theorem bitLen_zero : bitLen 0 = 0 := rfl

theorem ret_i64 {a b : Int} (h : a = b) : Ending.returned (.int .i64 a) = .returned (.int .i64 b) := by rw [h]

set_option maxRecDepth 100000 in
set_option maxHeartbeats 1000000 in
theorem width32_ok (x : Nat) (hx : x < 4294967296) (w : World) :
    Calls Oajg.prog 126 #[.int .u32 (x : Int)] w fun e w' => e = .returned (.int .i64 (bitLen x : Nat)) ∧ w' = w := by
  have hL : bitLen x ≤ 32 := bitLen_le_of_lt (n := 32) hx
  obtain ⟨L, HL⟩ : ∃ L, Hid (bitLen x = L) := ⟨_, rfl⟩
  rw [HL.out] at hL ⊢
  go_enter Oajg.func126, Oajg.ntmps126
  go_wp2_with fail
  go_loop [0, 3] (fun i j => ∃ y n : Nat, i = .int .u32 (y : Int) ∧ j = .int .i64 (n : Int) ∧ y < 4294967296 ∧ n + bitLen y = L) (fun i _ => (intOf i).toNat)
  case atStart => exact ⟨x, 0, rfl, rfl, hx, by rw [HL.out]; omega⟩
  case round =>
    obtain ⟨y, n, rfl, rfl, hy, hn⟩ := hrel
    by_cases h0 : y = 0
    · subst h0
      rw [bitLen_zero] at hn
      have hn' : n = L := by omega
      subst hn'
      clear hn
      go_wp2_with fail
      go_ret
      exact ⟨rfl, rfl⟩
    · have hb := bitLen_half h0
      have h0' : ((y : Int) != 0) = true := by simp; omega
      have HN : Hid (n + 1 + bitLen (y / 2) = L) := by show _ = _; omega
      have hn1 : n < 32 := by omega
      clear hb h0 hn
      go_wp2_with fail
      go_round
      case rel => exact ⟨y / 2, n + 1, by go_num, by go_num, by omega, HN.out⟩
      case measure => simp [intOf]; simp at h0'; omega

theorem bitLen_top {l : List Nat} {t : Nat} (hl : l.length = t + 1) (hlim : Limbs l) (h0 : l.getD t 0 ≠ 0) : bitLen (valL l) = 32 * t + bitLen (l.getD t 0) := by
  have e1 := valL_take_succ l t (by omega)
  rw [List.take_of_length_le (by omega)] at e1
  have hl2 := take_lt l t hlim (by omega)
  generalize l.getD t 0 = x at *
  have h1 := bitLen_lt x
  have h2 := bitLen_le h0
  have h3 := bitLen_pos h0
  obtain ⟨k, hk⟩ : ∃ k, bitLen x = k + 1 := ⟨bitLen x - 1, by omega⟩
  rw [hk] at h1 h2 ⊢
  simp only [Nat.add_sub_cancel] at h2
  have hp : (4294967296 : Nat) ^ t = 2 ^ (32 * t) := by rw [Nat.pow_mul]
  have e2 : bitLen (valL l) = 32 * t + k + 1 := by
    refine bitLen_uniq ?_ ?_
    · rw [e1, Nat.pow_add, ← hp]
      have : 4294967296 ^ t * 2 ^ k ≤ 4294967296 ^ t * x := Nat.mul_le_mul_left _ h2
      omega
    · rw [e1, Nat.add_assoc, Nat.pow_add, ← hp]
      have : 4294967296 ^ t * (x + 1) ≤ 4294967296 ^ t * 2 ^ (k + 1) := Nat.mul_le_mul_left _ h1
      rw [Nat.mul_add] at this
      omega
  rw [e2]; omega

theorem norm_top {l : List Nat} {t : Nat} (hl : l.length = t + 1) (hn : NormL l) : l.getD t 0 ≠ 0 := by
  have hne : l ≠ [] := by rintro rfl; simp at hl
  have := hn hne
  rw [List.getLast_eq_getElem] at this
  have e : l.length - 1 = t := by omega
  rw [List.getD_eq_getElem?_getD, List.getElem?_eq_getElem (by omega)]
  simpa [e] using this

set_option maxRecDepth 100000 in
set_option maxHeartbeats 1000000 in
theorem bitLen_ok (B : Nat) (v : Value) (n : Nat) (w : World) (h : NatIs B w v n) (hB : B ≤ 1073741824) :
    Calls Oajg.prog 68 #[v] w fun e w' => e = .returned (.int .i64 (bitLen n : Nat)) ∧ Below w.heap.size w w' := by
  have HT : Hid (Calls Oajg.prog 112 #[v] w fun e w' => e = .returned v ∧ w' = w) := trim_norm w h (by omega)
  have hnil := eql_nil
  by_cases hn : n = 0
  · subst hn
    have hv := h.of_zero
    subst hv
    clear h
    go_enter Oajg.func68, Oajg.ntmps68
    go_wp2_with fail
    refine Calls.mono HT.out ?_
    rintro _ w0 ⟨rfl, hw⟩
    subst w0
    go_wp2_with fail
    go_ret
    exact ⟨rfl, Below.refl _ _⟩
  · obtain ⟨l, b, cap, h1, h2, h3, h4, h5, rfl, h7, h8, h9⟩ := h.of_pos hn
    obtain ⟨t, ht⟩ : ∃ t, l.length = t + 1 := ⟨l.length - 1, by have := List.length_pos_iff.2 h5; omega⟩
    have hx := h9 t _ (get_some l t (by omega))
    rw [Nat.zero_add] at hx
    unfold lv at hx
    have hxb := limbs_get l t h2
    have htop := norm_top ht h3
    have HR : Hid (bitLen n = 32 * t + bitLen (l.getD t 0)) := by show _ = _; rw [← h1]; exact bitLen_top ht h2 htop
    have HW : Hid (∀ w, Calls Oajg.prog 126 #[.int .u32 ((l.getD t 0 : Nat) : Int)] w fun e w' => e = .returned (.int .i64 (bitLen (l.getD t 0) : Nat)) ∧ w' = w) := width32_ok _ hxb
    have hL : bitLen (l.getD t 0) ≤ 32 := bitLen_le_of_lt (n := 32) hxb
    rw [HR.out]
    generalize bitLen (l.getD t 0) = L at *
    generalize l.getD t 0 = X at *
    rw [ht] at HT h4 ⊢
    clear h h1 h2 h3 h5 h7 h9 hn HR htop ht
    go_enter Oajg.func68, Oajg.ntmps68
    go_wp2_with fail
    refine Calls.mono HT.out ?_
    rintro _ w0 ⟨rfl, hw⟩
    subst w0
    go_wp2_with fail
    refine Calls.mono (HW.out _) ?_
    rintro _ w0 ⟨rfl, hw⟩
    subst w0
    go_wp2_with fail
    go_ret
    exact ⟨ret_i64 (by push_cast; rfl), Below.refl _ _⟩


/-! ### Bit 0 -/
theorem valL_odd {l : List Nat} (h : l ≠ []) : valL l % 2 = l.getD 0 0 % 2 := by
  cases l with
  | nil => exact absurd rfl h
  | cons x l => simp only [valL, List.getD_cons_zero]; omega

set_option maxRecDepth 100000 in
set_option maxHeartbeats 1000000 in
theorem bit0_ok (B : Nat) (v : Value) (n : Nat) (w : World) (h : NatIs B w v n) (hB : B ≤ 1073741824) :
    Calls Oajg.prog 172 #[v, .int .i64 0] w fun e w' => e = .returned (.bool (n % 2 == 1)) ∧ Below w.heap.size w w' := by
  by_cases hn : n = 0
  · subst hn
    have hv := h.of_zero
    subst hv
    clear h
    go_enter Oajg.func172, Oajg.ntmps172
    go_wp2_with fail
    go_ret
    exact ⟨rfl, Below.refl _ _⟩
  · obtain ⟨l, b, cap, h1, h2, h3, h4, h5, rfl, h7, h8, h9⟩ := h.of_pos hn
    have hpos := List.length_pos_iff.2 h5
    have hx := h9 0 _ (get_some l 0 hpos)
    rw [Nat.zero_add] at hx
    unfold lv at hx
    have hxb := limbs_get l 0 h2
    have hp := valL_odd h5
    have k1 : bits .and .u32 ((l.getD 0 0 : Nat) : Int) 1 = ((n % 2 : Nat) : Int) := by
      have e1 : bits .and .u32 ((l.getD 0 0 : Nat) : Int) ((1 : Nat) : Int) = ((l.getD 0 0 &&& 1 : Nat) : Int) := u32_and_nat _ _ hxb (by decide)
      rw [Nat.and_one_is_mod, ← hp, h1] at e1
      exact e1
    have k2 : (((n % 2 : Nat) : Int) == 1) = (n % 2 == 1) := by
      by_cases hh : n % 2 = 1
      · simp [hh]
      · have : n % 2 = 0 := by omega
        simp [this]
    have hlp : 0 < l.length := hpos
    have K1 : Hid (bits .and .u32 ((l.getD 0 0 : Nat) : Int) 1 = ((n % 2 : Nat) : Int)) := k1
    generalize l.getD 0 0 = X at *
    generalize l.length = Z at *
    generalize (n % 2 == 1) = r at *
    generalize n % 2 = r2 at *
    clear h h1 h2 h3 h5 h7 h9 hn K1 hp hpos
    go_enter Oajg.func172, Oajg.ntmps172
    go_wp2_with fail
    go_ret
    exact ⟨rfl, Below.refl _ _⟩

/-! ### copies -/
theorem row_setCells {g : Nat} : ∀ (l c : List Nat) (o : Nat) (w : World), RowAt w g c → o + l.length ≤ c.length → RowAt (w.setCells g o (l.map lv)) g (c.take o ++ (l ++ c.drop (o + l.length)))
  | [], c, o, w, h, hl => by simpa [World.setCells] using h
  | x :: l, c, o, w, h, hl => by
    have ih := row_setCells l (c.set o x) (o + 1) (w.setCell ⟨g, o, none⟩ (lv x)) (h.set o x) (by simp at hl ⊢; omega)
    simp only [List.map_cons, World.setCells]
    have e : (c.set o x).take (o + 1) ++ (l ++ (c.set o x).drop (o + 1 + l.length)) = c.take o ++ (x :: l ++ c.drop (o + (x :: l).length)) := by
      simp only [List.length_cons] at hl ⊢
      rw [List.drop_set_of_lt (by omega), List.take_succ_eq_append_getElem (by simp; omega), List.getElem_set_self, List.take_set_of_le (Nat.le_refl _)]
      simp
      congr 1
      omega
    rw [e] at ih
    exact ih
theorem below_setCells {B g : Nat} {w0 : World} (hBg : B ≤ g) : ∀ (vs : List Value) (o : Nat) (w : World), Below B w0 w → Below B w0 (w.setCells g o vs)
  | [], _, _, h => h
  | v :: vs, o, w, h => below_setCells hBg vs (o + 1) _ (h.setCell hBg _)

theorem copy_limbs {w : World} {g n b cap : Nat} {l : List Nat} (hrow : RowAt w g (List.replicate n 0)) (hat : LimbsAt w b 0 l) (hl : l.length ≤ n) :
    ∃ wc, (Builtin.copy_ #[46, 46] 3 #[.slice (some ⟨g, 0, none⟩) n n, .slice (some ⟨b, 0, none⟩) l.length cap]).run Oajg.prog w = .ok (goInt l.length) wc ∧ RowAt wc g (l ++ List.replicate (n - l.length) 0) ∧ ∀ k w0, k ≤ g → Below k w0 w → Below k w0 wc := by
  refine ⟨w.setCells g 0 (l.map lv), ?_, ?_, fun k w0 hk h => below_setCells hk _ _ _ h⟩
  · have h := run_copy_cells (P := Oajg.prog) w 46 46 3 57 g 0 n n ⟨b, 0, none⟩ l.length cap (l.map lv) Oajg.underlying46 (by kernel_rfl) (by simp [Nat.min_eq_left hl])
      (fun j v hj => by
        rw [List.getElem?_map] at hj
        cases hx : l[j]? with
        | none => rw [hx] at hj; cases hj
        | some x =>
          rw [hx] at hj
          cases hj
          have := hat j x hx
          have ha : (⟨b, 0, none⟩ : Addr).add j = ⟨b, 0 + j, none⟩ := by unfold Addr.add; split <;> simp_all
          rw [ha]; exact this)
      (fun j hj => by
        have := hrow.cell (0 + j) (by simp at hj ⊢; omega)
        rw [this]; rfl)
      (fun j hj => hrow.frozen _) (fun v hv => by
        obtain ⟨x, _, rfl⟩ := List.mem_map.1 hv
        rfl)
    rw [List.length_map] at h
    exact h
  · have := row_setCells l (List.replicate n 0) 0 w hrow (by simpa using hl)
    simpa using this

/-! ### Take -/
set_option maxRecDepth 100000 in
set_option maxHeartbeats 1000000 in
theorem take_ok (B : Nat) (v : Value) (n : Nat) (w : World) (h : NatIs B w v n) (hB : B ≤ 1073741824) :
    Calls Oajg.prog 166 #[v] w fun e w' => ∃ v', e = .returned v' ∧ NatIs B w' v' n ∧ Below w.heap.size w w' := by
  have HT : Hid (Calls Oajg.prog 112 #[v] w fun e w' => e = .returned v ∧ w' = w) := trim_norm w h (by omega)
  have hnil := eql_nil
  by_cases hn : n = 0
  · subst hn
    have hv := h.of_zero
    subst hv
    clear h
    go_enter Oajg.func166, Oajg.ntmps166
    go_wp2_with fail
    refine Calls.mono HT.out ?_
    rintro _ w0 ⟨rfl, hw⟩
    subst w0
    go_wp2_with fail
    go_ret
    exact ⟨_, rfl, natIs_nil _ _, Below.refl _ _⟩
  · obtain ⟨l, b, cap, h1, h2, h3, h4, h5, rfl, h7, h8, h9⟩ := h.of_pos hn
    have hmk := run_make_limbs l.length (by omega)
    obtain ⟨wc, hcp, hrow, hbel⟩ := copy_limbs (w := w.alloc (.cells (madeCells #[.int .u32 0] l.length) 57)) (g := w.heap.size) (n := l.length) (b := b) (cap := cap) (l := l) (RowAt.made _ _) (h9.kept h8 ((Below.refl _ _).alloc (Nat.le_refl _) _)) (Nat.le_refl _)
    rw [Nat.sub_self, List.replicate_zero, List.append_nil] at hrow
    have HB : Hid (Below w.heap.size w wc) := hbel _ _ (Nat.le_refl _) ((Below.refl _ _).alloc (Nat.le_refl _) _)
    have HN : Hid (NatIs B wc (.slice (some ⟨w.heap.size, 0, none⟩) l.length l.length) n) := ⟨l, h1, h2, h3, h4, Or.inr ⟨h5, _, _, rfl, Nat.le_refl _, hrow.lt, hrow.limbs⟩⟩
    clear h h1 h2 h3 h5 h7 h9 hn hrow hbel
    go_enter Oajg.func166, Oajg.ntmps166
    go_wp2_with fail
    refine Calls.mono HT.out ?_
    rintro _ w0 ⟨rfl, hw⟩
    subst w0
    go_wp2_with fail
    go_ret
    exact ⟨_, rfl, HN.out, HB.out⟩

end Go.Proofs.Ygcoaj
