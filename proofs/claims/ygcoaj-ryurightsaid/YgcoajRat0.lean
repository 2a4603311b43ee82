/-
  PLAIN and WALKS: numbers in memory over stores into boxes; exact.whole, exact.scaled.
-/
import Derived.Test.YgcoajNat4
import Derived.Test.YgcoajBox
set_option linter.unusedVariables false
set_option linter.unusedSimpArgs false
namespace Go.Proofs.Ygcoaj
open Go.RowKit

/-- every limb's cell stays as it was -/
structure Kp (W W' : World) : Prop where
  size : W.heap.size ≤ W'.heap.size
  cell : ∀ b o x, W.cell? ⟨b, o, none⟩ = some (.int .u32 x) → W'.cell? ⟨b, o, none⟩ = some (.int .u32 x)

theorem cell_lt {W : World} {b o : Nat} {u : Value} (h : W.cell? ⟨b, o, none⟩ = some u) : b < W.heap.size := by
  by_cases hb : b < W.heap.size
  · exact hb
  · have : W.heap[b]? = none := Array.getElem?_eq_none (by omega)
    simp [World.cell?, this] at h

theorem Kp.refl (W : World) : Kp W W := ⟨Nat.le_refl _, fun _ _ _ h => h⟩
theorem Kp.trans {A B C : World} (h : Kp A B) (k : Kp B C) : Kp A C := ⟨Nat.le_trans h.size k.size, fun b o x hx => k.cell b o x (h.cell b o x hx)⟩
theorem Kp.of {W W' : World} (hb : Below W.heap.size W W') : Kp W W' := ⟨hb.size, fun b o x hx => (hb.cell (p := ⟨b, o, none⟩) (cell_lt hx)).trans hx⟩
theorem Kp.alloc {A W : World} (h : Kp A W) (ob : Obj) : Kp A (W.alloc ob) := h.trans (Kp.of ((Below.refl _ _).alloc (Nat.le_refl _) ob))
theorem Kp.drew {A W : World} (h : Kp A W) : Kp A W.drew := ⟨h.size, h.cell⟩
def Not32 (u : Value) : Prop := ∀ x, u ≠ .int .u32 x
theorem not32_bool (b : Bool) : Not32 (.bool b) := fun x h => nomatch h
theorem not32_slice (a : Option Addr) (n c : Nat) : Not32 (.slice a n c) := fun x h => nomatch h
theorem not32_u64 (n : Int) : Not32 (.int .u64 n) := fun x h => nomatch h
theorem not32_i8 (n : Int) : Not32 (.int .i8 n) := fun x h => nomatch h
theorem not32_i16 (n : Int) : Not32 (.int .i16 n) := fun x h => nomatch h
theorem not32_u8 (n : Int) : Not32 (.int .u8 n) := fun x h => nomatch h
theorem other (W : World) (v : Value) {p q : Addr} (h : p ≠ q) : (W.setCell p v).cell? q = W.cell? q := World.cell?_setCell_other (a := p) (b := q) (v := v) (w := W) h
theorem Kp.setCell {A W : World} (h : Kp A W) {p : Addr} {u v : Value} (hp : W.cell? p = some u) (hu : Not32 u) : Kp A (W.setCell p v) :=
  h.trans ⟨by rw [World.size_setCell]; exact Nat.le_refl _, fun b o x hx => by
    have hne : p ≠ ⟨b, o, none⟩ := by rintro rfl; rw [hp] at hx; exact hu x (Option.some.inj hx)
    rw [other _ _ hne]; exact hx⟩

theorem NatIs.kp {B : Nat} {W W' : World} {v : Value} {n : Nat} (h : NatIs B W v n) (hk : Kp W W') : NatIs B W' v n := by
  obtain ⟨l, h1, h2, h3, h4, h5⟩ := h
  refine ⟨l, h1, h2, h3, h4, ?_⟩
  rcases h5 with h5 | ⟨h5, b, cap, h6, h7, h8, h9⟩
  · exact Or.inl h5
  · exact Or.inr ⟨h5, b, cap, h6, h7, Nat.lt_of_lt_of_le h8 hk.size, fun j x hj => hk.cell _ _ _ (h9 j x hj)⟩

theorem NatIs.shape {B : Nat} {W : World} {v : Value} {n : Nat} (h : NatIs B W v n) : ∃ ad k c, v = .slice ad k c := by
  obtain ⟨l, h1, h2, h3, h4, h5⟩ := h
  rcases h5 with h5 | ⟨h5, b, cap, h6, _⟩
  · exact ⟨none, 0, 0, h5.2⟩
  · exact ⟨_, _, _, h6⟩

/-- a number's call, its answer written as a slice -/
theorem shaped {f : Nat} {args : Array Value} {w : World} {B n : Nat} (h : Calls Oajg.prog f args w fun e w' => ∃ v', e = .returned v' ∧ NatIs B w' v' n ∧ Below w.heap.size w w') :
    Calls Oajg.prog f args w fun e w' => ∃ ad k c, e = .returned (.slice ad k c) ∧ NatIs B w' (.slice ad k c) n ∧ Below w.heap.size w w' := by
  refine h.mono ?_
  rintro e w' ⟨v, rfl, h1, h2⟩
  obtain ⟨ad, k, c, rfl⟩ := h1.shape
  exact ⟨ad, k, c, rfl, h1, h2⟩

/-- three stores into a box of three -/
theorem store3 {W : World} {n : Nat} {u0 u1 u2 : Value} (h : W.cell? ⟨n, 0, none⟩ = some u0 ∧ W.cell? ⟨n, 1, none⟩ = some u1 ∧ W.cell? ⟨n, 2, none⟩ = some u2 ∧ (∀ o, W.frozen? ⟨n, o, none⟩ = false) ∧ n < W.heap.size)
    (h0 : Not32 u0) (h1 : Not32 u1) (h2 : Not32 u2) (x0 x1 x2 : Value) :
    Kp W (((W.setCell ⟨n, 0, none⟩ x0).setCell ⟨n, 1, none⟩ x1).setCell ⟨n, 2, none⟩ x2) := by
  refine Kp.setCell (Kp.setCell (Kp.setCell (Kp.refl W) h.1 h0) (u := u1) ?_ h1) (u := u2) ?_ h2
  · rw [other _ _ (by simp)]; exact h.2.1
  · rw [other _ _ (by simp), other _ _ (by simp)]; exact h.2.2.1

set_option maxRecDepth 100000 in
set_option maxHeartbeats 2000000 in
theorem whole_ok (neg : Bool) (ad : Option Addr) (k c : Nat) (w : World) :
    Calls Oajg.prog 75 #[.bool neg, .slice ad k c] w fun e w' => ∃ ad' k' c', e = .returned (.agg #[.bool neg, .slice ad k c, .slice ad' k' c']) ∧ NatIs 2 w' (.slice ad' k' c') 1 ∧ Below w.heap.size w w' := by
  have HF : Hid (∀ w, Calls Oajg.prog 60 #[.int .u64 1] w fun e w' => ∃ ad k c, e = .returned (.slice ad k c) ∧ NatIs 2 w' (.slice ad k c) 1 ∧ Below w.heap.size w w') := fun w => shaped (fromU64_any 1 (by decide) (by decide) w)
  have hR := bx3_made w (m := w.heap.size) (.bool false) (.slice none 0 0) (.slice none 0 0) 48 rfl
  have HB : Hid (Below w.heap.size w (w.alloc (.cells #[.bool false, .slice none 0 0, .slice none 0 0] 48))) := (Below.refl _ _).alloc (Nat.le_refl _) _
  go_enter Oajg.func75, Oajg.ntmps75
  go_wp2_with fail
  refine Calls.mono (HF.out _) ?_
  rintro _ w1 ⟨ad', k', c', rfl, hN, hb⟩
  replace hR := bx3_next hR hb
  have HB1 : Hid (Below w.heap.size w w1) := below_then HB.out hb
  have HN : Hid (NatIs 2 w1 (.slice ad' k' c') 1) := hN
  clear hb hN
  go_wp2_with fail
  refine bodyPost_ret (v := .agg #[.bool neg, .slice ad k c, .slice ad' k' c']) (by simp [results, Oajg.results75, go_sem, hR]) rfl ⟨ad', k', c', rfl, HN.out.kp ?_, ?_⟩
  · exact store3 hR (not32_bool _) (not32_slice _ _ _) (not32_slice _ _ _) _ _ _
  · exact ((HB1.out.setCell (Nat.le_refl _) _).setCell (Nat.le_refl _) _).setCell (Nat.le_refl _) _

set_option maxRecDepth 100000 in
set_option maxHeartbeats 2000000 in
theorem scaled_ok (neg : Bool) (B n : Nat) (ad : Option Addr) (k c : Nat) (K : Int) (w : World) (h : NatIs B w (.slice ad k c) n) (hB : B ≤ 1073741824) (hK0 : -65535 ≤ K) (hK1 : K ≤ 65535) :
    Calls Oajg.prog 76 #[.bool neg, .slice ad k c, .int .i64 K] w fun e w' => ∃ a1 k1 c1 a2 k2 c2, e = .returned (.agg #[.bool neg, .slice a1 k1 c1, .slice a2 k2 c2]) ∧ NatIs (B + 2048) w' (.slice a1 k1 c1) (n * 2 ^ K.toNat) ∧ NatIs 2050 w' (.slice a2 k2 c2) (2 ^ (-K).toNat) ∧ Below w.heap.size w w' := by
  have HF : Hid (∀ w, Calls Oajg.prog 60 #[.int .u64 1] w fun e w' => ∃ ad k c, e = .returned (.slice ad k c) ∧ NatIs 2 w' (.slice ad k c) 1 ∧ Below w.heap.size w w') := fun w => shaped (fromU64_any 1 (by decide) (by decide) w)
  have hR := bx3_made w (m := w.heap.size) (.bool false) (.slice none 0 0) (.slice none 0 0) 48 rfl
  have HB : Hid (Below w.heap.size w (w.alloc (.cells #[.bool false, .slice none 0 0, .slice none 0 0] 48))) := (Below.refl _ _).alloc (Nat.le_refl _) _
  have HNI : Hid (NatIs B w (.slice ad k c) n) := h
  clear h
  by_cases hk : K < 0
  · have HSH : Hid (∀ w ad k c, NatIs 2 w (.slice ad k c) 1 → Calls Oajg.prog 78 #[.slice ad k c, .int .u16 (-K)] w fun e w' => ∃ ad k c, e = .returned (.slice ad k c) ∧ NatIs 2050 w' (.slice ad k c) (2 ^ (-K).toNat) ∧ Below w.heap.size w w') := fun w ad k c h => by
      have := shaped (shl_any 2 (.slice ad k c) 1 (-K) w h (by decide) (by omega) (by omega))
      rw [Nat.one_mul] at this; exact this
    go_enter Oajg.func76, Oajg.ntmps76
    go_wp2_with fail
    refine Calls.mono (HF.out _) ?_
    rintro _ w1 ⟨ad', k', c', rfl, hN, hb⟩
    replace hR := bx3_next hR hb
    have HB1 : Hid (Below w.heap.size w w1) := below_then HB.out hb
    have HSH1 : Hid (Calls Oajg.prog 78 #[.slice ad' k' c', .int .u16 (-K)] w1 fun e w' => ∃ ad k c, e = .returned (.slice ad k c) ∧ NatIs 2050 w' (.slice ad k c) (2 ^ (-K).toNat) ∧ Below w1.heap.size w1 w') := HSH.out w1 ad' k' c' hN
    clear hb hN HSH HF HB
    go_wp2_with fail
    refine Calls.mono HSH1.out ?_
    rintro _ w2 ⟨a2, k2, c2, rfl, hN, hb⟩
    replace hR := bx3_next hR hb
    have HB2 : Hid (Below w.heap.size w w2) := below_then HB1.out hb
    have HN : Hid (NatIs 2050 w2 (.slice a2 k2 c2) (2 ^ (-K).toNat)) := hN
    clear hb hN HSH1 HB1
    go_wp2_with fail
    have hkp := store3 hR (not32_bool _) (not32_slice _ _ _) (not32_slice _ _ _) (.bool neg) (.slice ad k c) (.slice a2 k2 c2)
    refine bodyPost_ret (v := .agg #[.bool neg, .slice ad k c, .slice a2 k2 c2]) (by simp [results, Oajg.results76, go_sem, hR]) rfl ⟨_, _, _, _, _, _, rfl, ?_, HN.out.kp hkp, ?_⟩
    · rw [show K.toNat = 0 by omega, Nat.pow_zero, Nat.mul_one]
      exact ((HNI.out.kp (Kp.of HB2.out)).kp hkp).mono (by omega)
    · exact ((HB2.out.setCell (Nat.le_refl _) _).setCell (Nat.le_refl _) _).setCell (Nat.le_refl _) _
  · have HSH : Hid (Calls Oajg.prog 78 #[.slice ad k c, .int .u16 K] (w.alloc (.cells #[.bool false, .slice none 0 0, .slice none 0 0] 48)) fun e w' => ∃ ad k c, e = .returned (.slice ad k c) ∧ NatIs (B + 2048) w' (.slice ad k c) (n * 2 ^ K.toNat) ∧ Below (w.alloc (.cells #[.bool false, .slice none 0 0, .slice none 0 0] 48)).heap.size (w.alloc (.cells #[.bool false, .slice none 0 0, .slice none 0 0] 48)) w') :=
      shaped (shl_any B (.slice ad k c) n K _ (HNI.out.kp (Kp.of HB.out)) (by omega) (by omega) (by omega))
    have HWH : Hid (∀ w ad k c, Calls Oajg.prog 75 #[.bool neg, .slice ad k c] w fun e w' => ∃ ad' k' c', e = .returned (.agg #[.bool neg, .slice ad k c, .slice ad' k' c']) ∧ NatIs 2 w' (.slice ad' k' c') 1 ∧ Below w.heap.size w w') := fun w ad k c => whole_ok neg ad k c w
    go_enter Oajg.func76, Oajg.ntmps76
    go_wp2_with fail
    refine Calls.mono HSH.out ?_
    rintro _ w1 ⟨a1, k1, c1, rfl, hN, hb⟩
    replace hR := bx3_next hR hb
    have HB1 : Hid (Below w.heap.size w w1) := below_then HB.out hb
    have HN1 : Hid (NatIs (B + 2048) w1 (.slice a1 k1 c1) (n * 2 ^ K.toNat)) := hN
    clear hb hN HSH HF HB
    go_wp2_with fail
    refine Calls.mono (HWH.out _ _ _ _) ?_
    rintro _ w2 ⟨a2, k2, c2, rfl, hN, hb⟩
    replace hR := bx3_next hR hb
    have HB2 : Hid (Below w.heap.size w w2) := below_then HB1.out hb
    have HN2 : Hid (NatIs (B + 2048) w2 (.slice a1 k1 c1) (n * 2 ^ K.toNat)) := HN1.out.kp (Kp.of hb)
    have HN : Hid (NatIs 2 w2 (.slice a2 k2 c2) 1) := hN
    clear hb hN HWH HB1 HN1
    go_wp2_with fail
    have hkp := store3 hR (not32_bool _) (not32_slice _ _ _) (not32_slice _ _ _) (.bool neg) (.slice a1 k1 c1) (.slice a2 k2 c2)
    refine bodyPost_ret (v := .agg #[.bool neg, .slice a1 k1 c1, .slice a2 k2 c2]) (by simp [results, Oajg.results76, go_sem, hR]) rfl ⟨_, _, _, _, _, _, rfl, HN2.out.kp hkp, ?_, ?_⟩
    · rw [show (-K).toNat = 0 by omega, Nat.pow_zero]
      exact (HN.out.kp hkp).mono (by omega)
    · exact ((HB2.out.setCell (Nat.le_refl _) _).setCell (Nat.le_refl _) _).setCell (Nat.le_refl _) _

end Go.Proofs.Ygcoaj
