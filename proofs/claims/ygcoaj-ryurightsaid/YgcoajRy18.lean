/-
  WALKS: tab.low128 (114).
-/
import Derived.Test.YgcoajRy16
set_option linter.unusedVariables false
set_option linter.unusedSimpArgs false
namespace Go.Proofs.Ygcoaj
open Go.RowKit

/-- four words, the first i of them the limbs -/
def w4 (l : List Nat) (i : Nat) : Array Value := #[.int .u64 ((if 0 < i then l.getD 0 0 else 0 : Nat) : Int), .int .u64 ((if 1 < i then l.getD 1 0 else 0 : Nat) : Int), .int .u64 ((if 2 < i then l.getD 2 0 else 0 : Nat) : Int), .int .u64 ((if 3 < i then l.getD 3 0 else 0 : Nat) : Int)]
theorem w4_zero (l : List Nat) : w4 l 0 = #[.int .u64 0, .int .u64 0, .int .u64 0, .int .u64 0] := rfl
theorem w4_step (l : List Nat) (i : Nat) (hi : i < 4) : (w4 l i).setIfInBounds i (.int .u64 ((l.getD i 0 : Nat) : Int)) = w4 l (i + 1) := by
  have : i = 0 ∨ i = 1 ∨ i = 2 ∨ i = 3 := by omega
  rcases this with rfl | rfl | rfl | rfl <;> rfl
theorem w4_get (l : List Nat) (i k : Nat) (hk : k < 4) : (w4 l i)[k]? = some (.int .u64 ((if k < i then l.getD k 0 else 0 : Nat) : Int)) := by
  have : k = 0 ∨ k = 1 ∨ k = 2 ∨ k = 3 := by omega
  rcases this with rfl | rfl | rfl | rfl <;> rfl
theorem getD_short (l : List Nat) (k : Nat) : (if k < l.length then l.getD k 0 else 0) = l.getD k 0 := by
  by_cases h : k < l.length
  · rw [if_pos h]
  · rw [if_neg h, List.getD_eq_getElem?_getD, List.getElem?_eq_none (by omega)]; rfl

theorem val4 (l : List Nat) (h : l.length ≤ 4) : valL l = l.getD 0 0 + 4294967296 * (l.getD 1 0 + 4294967296 * (l.getD 2 0 + 4294967296 * l.getD 3 0)) := by
  match l, h with
  | [], _ => rfl
  | [a], _ => simp [valL]
  | [a, b], _ => simp [valL]
  | [a, b, c], _ => simp [valL]
  | [a, b, c, d], _ => simp [valL]

set_option maxRecDepth 100000 in
set_option maxHeartbeats 4000000 in
theorem low128_ok (B : Nat) (ad : Option Addr) (k c : Nat) (n : Nat) (w : World) (hB : B ≤ 1073741824) (h : NatIs B w (.slice ad k c) n) (hn0 : n ≠ 0) (hn : n < 340282366920938463463374607431768211456) :
    Calls Oajg.prog 114 #[.slice ad k c] w fun e w' => e = .returned (.agg #[.int .u64 ((n / 18446744073709551616 : Nat) : Int), .int .u64 ((n % 18446744073709551616 : Nat) : Int)]) ∧ Below w.heap.size w w' := by
  obtain ⟨l, b, cap, h1, h2, h3, h4, h5, hv, h7, h8, h9⟩ := h.of_pos hn0
  injection hv with e1 e2 e3
  subst e1; subst e2; subst e3
  have hpos := List.length_pos_iff.2 h5
  have hl4 : l.length ≤ 4 := by
    rcases Nat.lt_or_ge 4 l.length with hc | hc
    · exfalso
      have p := normL_pos l h3 h5
      have p2 : 4294967296 ^ 4 ≤ 4294967296 ^ (l.length - 1) := Nat.pow_le_pow_right (by decide) (by omega)
      omega
    · exact hc
  have HV : Hid (n = l.getD 0 0 + 4294967296 * (l.getD 1 0 + 4294967296 * (l.getD 2 0 + 4294967296 * l.getD 3 0))) := by rw [← h1]; exact val4 l hl4
  have HAT : Hid (LimbsAt w b 0 l) := h9
  have hW0 : Blk ((w.alloc (.cells #[.int .u64 0, .int .u64 0] 88)).alloc (.cells #[.int .u64 0, .int .u64 0, .int .u64 0, .int .u64 0] 190)) (w.heap.size + 1) (w4 l 0) 190 := by
    rw [w4_zero]
    have := Blk.made (w.alloc (.cells #[.int .u64 0, .int .u64 0] 88)) #[.int .u64 0, .int .u64 0, .int .u64 0, .int .u64 0] 190
    simpa using this
  clear h h1 h9
  go_enter Oajg.func114, Oajg.ntmps114
  go_wp2_with fail
  go_loopw [8] (fun c8 wr => ∃ i : Nat, c8 = .int .i64 (i : Int) ∧ i ≤ l.length ∧ Blk wr (w.heap.size + 1) (w4 l i) 190 ∧ (wr.cell? ⟨w.heap.size, 0, none⟩ = some (.int .u64 0) ∧ wr.cell? ⟨w.heap.size, 1, none⟩ = some (.int .u64 0) ∧ (∀ o, wr.frozen? ⟨w.heap.size, o, none⟩ = false) ∧ w.heap.size < wr.heap.size) ∧ Below w.heap.size w wr) (fun c8 _ => l.length - (intOf c8).toNat)
  case atStart => exact ⟨0, rfl, Nat.zero_le _, hW0, bx2_alloc (bx2_made w (m := w.heap.size) _ _ 88 rfl) _, ((Below.refl _ _).alloc (Nat.le_refl _) _).alloc (by simp) _⟩
  case round =>
    clear hW0
    obtain ⟨i, rfl, hi, hblk, hbx, hbel⟩ := hrel
    by_cases hil : i < l.length
    · have x1 := limb_at HAT.out h8 hbel i hil
      have m0 := (hblk.cell i).trans (w4_get l i i (by omega))
      have m1 := hblk.frozen
      have m2 := hblk.lt
      have k1 : bits .and .i64 (i : Int) 3 = (i : Int) := by
        have : i = 0 ∨ i = 1 ∨ i = 2 ∨ i = 3 := by omega
        rcases this with rfl | rfl | rfl | rfl <;> rfl
      have k2 : (i : Int) % 4 = (i : Int) := by omega
      have hi4 : i < 4 := by omega
      have HB := hid_mk (hblk.set i (.int .u64 ((l.getD i 0 : Nat) : Int)))
      rw [w4_step l i hi4] at HB
      have HX := hid_mk (bx2_far hbx (p := ⟨w.heap.size + 1, i, none⟩) (u := .int .u64 ((l.getD i 0 : Nat) : Int)) (by simp))
      have HE := hid_mk (hbel.setCell (p := ⟨w.heap.size + 1, i, none⟩) (by simp) (.int .u64 ((l.getD i 0 : Nat) : Int)))
      have hlt := limbs_get l i h2
      clear hblk hbx hbel
      generalize l.getD i 0 = X at *
      go_wp2_with fail
      go_roundw
      case rel => exact ⟨i + 1, by go_num, by omega, HB.out, HX.out, HE.out⟩
      case measure => simp [intOf]; omega
    · obtain rfl : i = l.length := by omega
      have m0 := (hblk.cell 0).trans (w4_get l l.length 0 (by decide))
      have m1 := (hblk.cell 1).trans (w4_get l l.length 1 (by decide))
      have m2 := (hblk.cell 2).trans (w4_get l l.length 2 (by decide))
      have m3 := (hblk.cell 3).trans (w4_get l l.length 3 (by decide))
      rw [getD_short] at m0 m1 m2 m3
      have g0 := limbs_get l 0 h2
      have g1 := limbs_get l 1 h2
      have g2 := limbs_get l 2 h2
      have g3 := limbs_get l 3 h2
      have hv := HV.out
      have HB := hid_mk hbel
      clear hblk HV HAT hbel
      generalize l.getD 0 0 = X0 at *
      generalize l.getD 1 0 = X1 at *
      generalize l.getD 2 0 = X2 at *
      generalize l.getD 3 0 = X3 at *
      have e1 : n / 18446744073709551616 = X3 * 4294967296 + X2 := by omega
      have e2 : n % 18446744073709551616 = X1 * 4294967296 + X0 := by omega
      have k1 := or32 X3 X2 g3 g2
      have k2 := or32 X1 X0 g1 g0
      rw [← e1] at k1
      rw [← e2] at k2
      obtain ⟨H, HH⟩ : ∃ H, Hid (n / 18446744073709551616 = H) := ⟨_, rfl⟩
      obtain ⟨L, HL⟩ : ∃ L, Hid (n % 18446744073709551616 = L) := ⟨_, rfl⟩
      rw [HH.out] at k1
      rw [HL.out] at k2
      have k3 : IntKind.u64.wrap ((X3 : Int) * 4294967296) = (X3 : Int) * 4294967296 := by rw [IntKind.wrap_u64]; omega
      have k4 : IntKind.u64.wrap ((X1 : Int) * 4294967296) = (X1 : Int) * 4294967296 := by rw [IntKind.wrap_u64]; omega
      clear hv e1 e2
      go_wp2_with fail
      exact bodyPost_ret (v := .agg #[.int .u64 (H : Int), .int .u64 (L : Int)]) (by simp [results, Oajg.results114, go_sem, hbx]) rfl ⟨by rw [HH.out, HL.out], (HB.out.setCell (p := ⟨w.heap.size, 0, none⟩) (Nat.le_refl _) _).setCell (p := ⟨w.heap.size, 1, none⟩) (Nat.le_refl _) _⟩

end Go.Proofs.Ygcoaj
