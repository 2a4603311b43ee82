/-
  WALKS: dec.Dec.Ok (211).
-/
import Derived.Test.YgcoajRy5
set_option linter.unusedVariables false
set_option linter.unusedSimpArgs false
namespace Go.Proofs.Ygcoaj
open Go.RowKit

set_option maxRecDepth 100000 in
set_option maxHeartbeats 1000000 in
theorem decOk_ok (neg : Bool) (n L : Nat) (k : Int) (hL1 : 1 ≤ L) (hL2 : L ≤ 18) (hz : n % 10 ≠ 0) (hlow : 10 ^ (L - 1) ≤ n) (hlt : n < 10 ^ L) (hk1 : -2000 ≤ k) (hk2 : k ≤ 2000) (w : World) :
    Calls Oajg.prog 211 #[.agg #[.bool neg, .string (dstr L n), .int .i16 k]] w fun x w' => x = .returned (.bool true) ∧ Below w.heap.size w w' := by
  have hsz := dstr_size L n
  have HD0 := hid_mk (mk_digit (n := n) (L := L) (z := 0) (i := 0) hL1 (by simp [Nat.mod_one]) (by simpa using hz) hlow hlt hL1)
  have HDL := hid_mk (mk_digit (n := n) (L := L) (z := 0) (i := L - 1) hL1 (by simp [Nat.mod_one]) (by simpa using hz) hlow hlt (by omega))
  have HG := hid_mk (fun i h => dstr_get L n i h)
  generalize dstr L n = s at *
  have hR := bx3_made w (m := w.heap.size) (.bool neg) (.string s) (.int .i16 k) 69 rfl
  have HB0 := hid_mk (show Below w.heap.size w (w.alloc (.cells #[.bool neg, .string s, .int .i16 k] 69)) from (Below.refl _ _).alloc (Nat.le_refl _) _)
  clear hz hlow hlt
  have hl0 : ((L : Int) == 0) = false := by rw [beq_eq_false_iff_ne]; omega
  go_enter Oajg.func211, Oajg.ntmps211
  go_wp2_with fail
  go_loopw [4] (fun c4 wr => ∃ (i : Nat), c4 = .int .i64 (i : Int) ∧ i ≤ L ∧ (wr.cell? ⟨w.heap.size, 0, none⟩ = some (.bool neg) ∧ wr.cell? ⟨w.heap.size, 1, none⟩ = some (.string s) ∧ wr.cell? ⟨w.heap.size, 2, none⟩ = some (.int .i16 k) ∧ (∀ o, wr.frozen? ⟨w.heap.size, o, none⟩ = false) ∧ w.heap.size < wr.heap.size) ∧ Below w.heap.size w wr) (fun c4 _ => L - (intOf c4).toNat)
  case atStart => exact ⟨0, rfl, by omega, hR, HB0.out⟩
  case round =>
    clear hR HB0
    obtain ⟨i, rfl, hi, hR, hbel⟩ := hrel
    have HB := hid_mk hbel
    clear hbel
    by_cases hiL : i < L
    · have hix : (s[i]'(by omega)).toNat = dgt n (L - 1 - i) := HG.out i (by omega)
      have d1 := dgt_lo n (L - 1 - i)
      have d2 := dgt_hi n (L - 1 - i)
      generalize dgt n (L - 1 - i) = d at *
      have b1 : decide ((d : Int) < 48) = false := by simp; omega
      have b2 : decide (57 < (d : Int)) = false := by simp; omega
      go_wp2_with fail
      go_roundw
      case rel => exact ⟨i + 1, by go_num, by omega, hR, HB.out⟩
      case measure => simp [intOf]; omega
    · have x0 : (s[0]'(by omega)).toNat = dgt n (L - 1 - 0) := HG.out 0 (by omega)
      have xL : (s[L - 1]'(by omega)).toNat = dgt n (L - 1 - (L - 1)) := HG.out (L - 1) (by omega)
      have y0 := HD0.out.1 (by simp)
      have yL := HDL.out.2.1 (by omega)
      generalize dgt n (L - 1 - 0) = d0 at *
      generalize dgt n (L - 1 - (L - 1)) = dL at *
      have b0 : ((d0 : Int) != 48) = true := by rw [bne_iff_ne]; omega
      have bL : ((dL : Int) != 48) = true := by rw [bne_iff_ne]; omega
      have e1 : ((L : Int) - 1) = ((L - 1 : Nat) : Int) := by omega
      have c1 : decide (-2000 ≤ k) = true := decide_eq_true hk1
      have c2 : decide (k ≤ 2000) = true := decide_eq_true hk2
      clear y0 yL
      go_wp2_with fail
      go_ret
      exact ⟨rfl, HB.out⟩
end Go.Proofs.Ygcoaj
