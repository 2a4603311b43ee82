/-
  WALKS: exact.Value.
-/
import Derived.Test.YgcoajRat0
set_option linter.unusedVariables false
set_option linter.unusedSimpArgs false
namespace Go.Proofs.Ygcoaj
open Go.RowKit

theorem q4_next {w W W' : World} {n : Nat} {u0 u1 u2 u3 : Value} (h : (W.cell? ⟨n, 0, none⟩ = some u0 ∧ W.cell? ⟨n, 1, none⟩ = some u1 ∧ W.cell? ⟨n, 2, none⟩ = some u2 ∧ W.cell? ⟨n, 3, none⟩ = some u3 ∧ (∀ o, W.frozen? ⟨n, o, none⟩ = false) ∧ n < W.heap.size) ∧ Below w.heap.size w W) (hb : Below W.heap.size W W') :
    (W'.cell? ⟨n, 0, none⟩ = some u0 ∧ W'.cell? ⟨n, 1, none⟩ = some u1 ∧ W'.cell? ⟨n, 2, none⟩ = some u2 ∧ W'.cell? ⟨n, 3, none⟩ = some u3 ∧ (∀ o, W'.frozen? ⟨n, o, none⟩ = false) ∧ n < W'.heap.size) ∧ Below w.heap.size w W' := ⟨bx4_next h.1 hb, below_then h.2 hb⟩
theorem q4_drew {w W : World} {n : Nat} {u0 u1 u2 u3 : Value} (h : (W.cell? ⟨n, 0, none⟩ = some u0 ∧ W.cell? ⟨n, 1, none⟩ = some u1 ∧ W.cell? ⟨n, 2, none⟩ = some u2 ∧ W.cell? ⟨n, 3, none⟩ = some u3 ∧ (∀ o, W.frozen? ⟨n, o, none⟩ = false) ∧ n < W.heap.size) ∧ Below w.heap.size w W) :
    (W.drew.cell? ⟨n, 0, none⟩ = some u0 ∧ W.drew.cell? ⟨n, 1, none⟩ = some u1 ∧ W.drew.cell? ⟨n, 2, none⟩ = some u2 ∧ W.drew.cell? ⟨n, 3, none⟩ = some u3 ∧ (∀ o, W.drew.frozen? ⟨n, o, none⟩ = false) ∧ n < W.drew.heap.size) ∧ Below w.heap.size w W.drew := ⟨bx4_drew h.1, h.2.drew⟩
theorem q4_store {w W : World} {n : Nat} {u0 u1 u2 u3 : Value} (h : (W.cell? ⟨n, 0, none⟩ = some u0 ∧ W.cell? ⟨n, 1, none⟩ = some u1 ∧ W.cell? ⟨n, 2, none⟩ = some u2 ∧ W.cell? ⟨n, 3, none⟩ = some u3 ∧ (∀ o, W.frozen? ⟨n, o, none⟩ = false) ∧ n < W.heap.size) ∧ Below w.heap.size w W) {p : Addr} {u : Value} (hp : w.heap.size ≤ p.block ∧ n ≠ p.block) :
    ((W.setCell p u).cell? ⟨n, 0, none⟩ = some u0 ∧ (W.setCell p u).cell? ⟨n, 1, none⟩ = some u1 ∧ (W.setCell p u).cell? ⟨n, 2, none⟩ = some u2 ∧ (W.setCell p u).cell? ⟨n, 3, none⟩ = some u3 ∧ (∀ o, (W.setCell p u).frozen? ⟨n, o, none⟩ = false) ∧ n < (W.setCell p u).heap.size) ∧ Below w.heap.size w (W.setCell p u) := ⟨bx4_far h.1 hp.2, h.2.setCell hp.1 u⟩

set_option maxRecDepth 100000 in
set_option maxHeartbeats 4000000 in
theorem value_fin (E M : Nat) (h : FOk E M) (x : Nat) (hx : x < 18446744073709551616) (hC3 : upC E M x ≠ 3) (hC4 : upC E M x ≠ 4) (hE0 : -65535 ≤ upE E M x) (hE1 : upE E M x ≤ 65535) (hM : upM E M x < 18446744073709551616) (w : World) :
    Calls Oajg.prog 26 #[.agg #[.int .u8 (E : Int), .int .u8 (M : Int)], .int .u64 (x : Int)] w fun e w' => ∃ a1 k1 c1 a2 k2 c2,
      e = .returned (.tuple #[.agg #[.bool (upN E M x), .slice a1 k1 c1, .slice a2 k2 c2], .int .i8 (upC E M x)]) ∧ NatIs 2050 w' (.slice a1 k1 c1) (upM E M x * 2 ^ (upE E M x).toNat) ∧ NatIs 2050 w' (.slice a2 k2 c2) (2 ^ (-upE E M x).toNat) ∧ Below w.heap.size w w' := by
  have HO : Hid (∀ w, Calls Oajg.prog 17 #[.agg #[.int .u8 (E : Int), .int .u8 (M : Int)]] w fun e w' => e = .returned (.bool true) ∧ Below w.heap.size w w') := ok_yes h
  have HU : Hid (∀ w, Calls Oajg.prog 74 #[.agg #[.int .u8 (E : Int), .int .u8 (M : Int)], .int .u64 (x : Int)] w fun e w' => e = .returned (.agg #[.bool (upN E M x), .int .i8 (upC E M x), .int .i16 (upE E M x), .int .u64 (upM E M x : Nat)]) ∧ Below w.heap.size w w') := unpack_ok E M h x hx
  generalize upN E M x = N at *
  generalize upC E M x = C at *
  generalize upE E M x = V at *
  generalize upM E M x = R at *
  have HF : Hid (∀ w, Calls Oajg.prog 60 #[.int .u64 (R : Int)] w fun e w' => ∃ ad k c, e = .returned (.slice ad k c) ∧ NatIs 2 w' (.slice ad k c) R ∧ Below w.heap.size w w') := fun w => shaped (fromU64_any (R : Int) (by omega) (by omega) w)
  have HSC : Hid (∀ w ad k c, NatIs 2 w (.slice ad k c) R → Calls Oajg.prog 76 #[.bool N, .slice ad k c, .int .i64 V] w fun e w' => ∃ a1 k1 c1 a2 k2 c2, e = .returned (.agg #[.bool N, .slice a1 k1 c1, .slice a2 k2 c2]) ∧ NatIs 2050 w' (.slice a1 k1 c1) (R * 2 ^ V.toNat) ∧ NatIs 2050 w' (.slice a2 k2 c2) (2 ^ (-V).toNat) ∧ Below w.heap.size w w') :=
    fun w ad k c h => scaled_ok N 2 R ad k c V w h (by decide) hE0 hE1
  have j3 : (C == 3) = false := by simp [hC3]
  have j4 : (C == 4) = false := by simp [hC4]
  have j5 : IntKind.i64.wrap V = V := by rw [IntKind.wrap_i64]; omega
  have hR := bx3_made (w.alloc (.cells #[.int .u8 (E : Int), .int .u8 (M : Int)] 23)) (m := w.heap.size + 1) (.bool false) (.slice none 0 0) (.slice none 0 0) 48 (by simp)
  have hS := sf_alloc (sf_box w E M) (.cells #[.bool false, .slice none 0 0, .slice none 0 0] 48)
  clear hC3 hC4
  go_enter Oajg.func26, Oajg.ntmps26
  go_wp2_with fail
  refine Calls.mono (HO.out _) ?_
  rintro _ w0 ⟨rfl, hb⟩
  replace hS := sf_next hS hb
  replace hR := bx3_next hR hb
  clear hb HO
  go_wp2_with fail
  refine Calls.mono (HU.out _) ?_
  rintro _ w1 ⟨rfl, hb⟩
  replace hS := sf_next hS hb
  replace hR := bx3_next hR hb
  clear hb HU
  have hQ := bx4_made w1 (m := w1.heap.size) (.bool N) (.int .i8 C) (.int .i16 V) (.int .u64 (R : Int)) 107 rfl
  have hQ2 := And.intro hQ (hS.2.2.2.alloc hS.2.2.2.size (.cells #[.bool N, .int .i8 C, .int .i16 V, .int .u64 (R : Int)] 107))
  have hR2 := bx3_alloc hR (.cells #[.bool N, .int .i8 C, .int .i16 V, .int .u64 (R : Int)] 107)
  have hn : w.heap.size + 1 < w1.heap.size := hR.2.2.2.2
  clear hQ hS hR
  go_wp2_with fail
  go_region_held3 (fun W => (W.cell? ⟨w1.heap.size, 0, none⟩ = some (.bool N) ∧ W.cell? ⟨w1.heap.size, 1, none⟩ = some (.int .i8 C) ∧ W.cell? ⟨w1.heap.size, 2, none⟩ = some (.int .i16 V) ∧ W.cell? ⟨w1.heap.size, 3, none⟩ = some (.int .u64 (R : Int)) ∧ (∀ o, W.frozen? ⟨w1.heap.size, o, none⟩ = false) ∧ w1.heap.size < W.heap.size) ∧ Below w.heap.size w W)
    ((repeat' (first | with_reducible assumption | with_reducible refine q4_drew ?_ | with_reducible refine q4_store ?_ ?_ | (simp only [World.size_alloc, World.size_drew, World.size_setCell]; omega) | omega)))
    ((first | (go_at_call 60; refine Calls.mono (HF.out _) ?_; rintro _ w3 ⟨a0, k0, c0, rfl, hN, hb⟩; have hQ3 := q4_next (by with_reducible assumption) hb; have hR3 := bx3_next (bx3_drew hR2) hb; have HN3 : Hid (NatIs 2 w3 (.slice a0 k0 c0) R) := hN; clear hb hN) | (go_at_call 76; refine Calls.mono (HSC.out _ _ _ _ HN3.out) ?_; rintro _ w4 ⟨a1, k1, c1, a2, k2, c2, rfl, hN, hN2, hb⟩; have hQ4 := q4_next (by with_reducible assumption) hb; have hR4 := bx3_next hR3 hb; have HN4 : Hid (NatIs 2050 w4 (.slice a1 k1 c1) (R * 2 ^ V.toNat)) := hN; have HN5 : Hid (NatIs 2050 w4 (.slice a2 k2 c2) (2 ^ (-V).toNat)) := hN2; clear hb hN hN2)))
  go_wp2_with fail
  have hkp := store3 hR4 (not32_bool _) (not32_slice _ _ _) (not32_slice _ _ _) (.bool N) (.slice a1 k1 c1) (.slice a2 k2 c2)
  refine bodyPost_ret (v := .tuple #[.agg #[.bool N, .slice a1 k1 c1, .slice a2 k2 c2], .int .i8 C]) (by simp [results, Oajg.results26, go_sem, hR4]) rfl ⟨_, _, _, _, _, _, rfl, HN4.out.kp hkp, HN5.out.kp hkp, ?_⟩
  exact ((hQ4.2.setCell (Nat.le_succ _) _).setCell (Nat.le_succ _) _).setCell (Nat.le_succ _) _

set_option maxRecDepth 100000 in
set_option maxHeartbeats 4000000 in
theorem value_spec (E M : Nat) (h : FOk E M) (x : Nat) (hx : x < 18446744073709551616) (hC : upC E M x = 3 ∨ upC E M x = 4) (w : World) :
    Calls Oajg.prog 26 #[.agg #[.int .u8 (E : Int), .int .u8 (M : Int)], .int .u64 (x : Int)] w fun e w' => ∃ a2 k2 c2,
      e = .returned (.tuple #[.agg #[.bool false, .slice none 0 0, .slice a2 k2 c2], .int .i8 (upC E M x)]) ∧ NatIs 2 w' (.slice a2 k2 c2) 1 ∧ Below w.heap.size w w' := by
  have HO : Hid (∀ w, Calls Oajg.prog 17 #[.agg #[.int .u8 (E : Int), .int .u8 (M : Int)]] w fun e w' => e = .returned (.bool true) ∧ Below w.heap.size w w') := ok_yes h
  have HU : Hid (∀ w, Calls Oajg.prog 74 #[.agg #[.int .u8 (E : Int), .int .u8 (M : Int)], .int .u64 (x : Int)] w fun e w' => e = .returned (.agg #[.bool (upN E M x), .int .i8 (upC E M x), .int .i16 (upE E M x), .int .u64 (upM E M x : Nat)]) ∧ Below w.heap.size w w') := unpack_ok E M h x hx
  generalize upN E M x = N at *
  generalize upC E M x = C at *
  generalize upE E M x = V at *
  generalize upM E M x = R at *
  have HWH : Hid (∀ w, Calls Oajg.prog 75 #[.bool false, .slice none 0 0] w fun e w' => ∃ ad' k' c', e = .returned (.agg #[.bool false, .slice none 0 0, .slice ad' k' c']) ∧ NatIs 2 w' (.slice ad' k' c') 1 ∧ Below w.heap.size w w') := fun w => whole_ok false none 0 0 w
  have hR := bx3_made (w.alloc (.cells #[.int .u8 (E : Int), .int .u8 (M : Int)] 23)) (m := w.heap.size + 1) (.bool false) (.slice none 0 0) (.slice none 0 0) 48 (by simp)
  have hS := sf_alloc (sf_box w E M) (.cells #[.bool false, .slice none 0 0, .slice none 0 0] 48)
  rcases hC with hC | hC
  · have j4 : (C == 4) = false := by rw [hC]; rfl
    have j3 : (C == 3) = true := by rw [hC]; rfl
    clear hC
    go_enter Oajg.func26, Oajg.ntmps26
    go_wp2_with fail
    refine Calls.mono (HO.out _) ?_
    rintro _ w0 ⟨rfl, hb⟩
    replace hS := sf_next hS hb
    replace hR := bx3_next hR hb
    clear hb HO
    go_wp2_with fail
    refine Calls.mono (HU.out _) ?_
    rintro _ w1 ⟨rfl, hb⟩
    replace hS := sf_next hS hb
    replace hR := bx3_next hR hb
    clear hb HU
    have hQ := bx4_made w1 (m := w1.heap.size) (.bool N) (.int .i8 C) (.int .i16 V) (.int .u64 (R : Int)) 107 rfl
    have hQ2 := And.intro hQ (hS.2.2.2.alloc hS.2.2.2.size (.cells #[.bool N, .int .i8 C, .int .i16 V, .int .u64 (R : Int)] 107))
    have hR2 := bx3_alloc hR (.cells #[.bool N, .int .i8 C, .int .i16 V, .int .u64 (R : Int)] 107)
    have hn : w.heap.size + 1 < w1.heap.size := hR.2.2.2.2
    clear hQ hS hR
    go_wp2_with fail
    go_region_held3 (fun W => (W.cell? ⟨w1.heap.size, 0, none⟩ = some (.bool N) ∧ W.cell? ⟨w1.heap.size, 1, none⟩ = some (.int .i8 C) ∧ W.cell? ⟨w1.heap.size, 2, none⟩ = some (.int .i16 V) ∧ W.cell? ⟨w1.heap.size, 3, none⟩ = some (.int .u64 (R : Int)) ∧ (∀ o, W.frozen? ⟨w1.heap.size, o, none⟩ = false) ∧ w1.heap.size < W.heap.size) ∧ Below w.heap.size w W)
      ((repeat' (first | with_reducible assumption | with_reducible refine q4_drew ?_ | with_reducible refine q4_store ?_ ?_ | (simp only [World.size_alloc, World.size_drew, World.size_setCell]; omega) | omega)))
      ((go_at_call 75; refine Calls.mono (HWH.out _) ?_; rintro _ w4 ⟨a2, k2, c2, rfl, hN, hb⟩; have hQ4 := q4_next (by with_reducible assumption) hb; have hR4 := bx3_next (bx3_drew hR2) hb; have HN5 : Hid (NatIs 2 w4 (.slice a2 k2 c2) 1) := hN; clear hb hN))
    go_wp2_with fail
    have hkp := store3 hR4 (not32_bool _) (not32_slice _ _ _) (not32_slice _ _ _) (.bool false) (.slice none 0 0) (.slice a2 k2 c2)
    refine bodyPost_ret (v := .tuple #[.agg #[.bool false, .slice none 0 0, .slice a2 k2 c2], .int .i8 C]) (by simp [results, Oajg.results26, go_sem, hR4]) rfl ⟨_, _, _, rfl, HN5.out.kp hkp, ?_⟩
    exact ((hQ4.2.setCell (Nat.le_succ _) _).setCell (Nat.le_succ _) _).setCell (Nat.le_succ _) _
  · have j4 : (C == 4) = true := by rw [hC]; rfl
    clear hC
    go_enter Oajg.func26, Oajg.ntmps26
    go_wp2_with fail
    refine Calls.mono (HO.out _) ?_
    rintro _ w0 ⟨rfl, hb⟩
    replace hS := sf_next hS hb
    replace hR := bx3_next hR hb
    clear hb HO
    go_wp2_with fail
    refine Calls.mono (HU.out _) ?_
    rintro _ w1 ⟨rfl, hb⟩
    replace hS := sf_next hS hb
    replace hR := bx3_next hR hb
    clear hb HU
    have hQ := bx4_made w1 (m := w1.heap.size) (.bool N) (.int .i8 C) (.int .i16 V) (.int .u64 (R : Int)) 107 rfl
    have hQ2 := And.intro hQ (hS.2.2.2.alloc hS.2.2.2.size (.cells #[.bool N, .int .i8 C, .int .i16 V, .int .u64 (R : Int)] 107))
    have hR2 := bx3_alloc hR (.cells #[.bool N, .int .i8 C, .int .i16 V, .int .u64 (R : Int)] 107)
    have hn : w.heap.size + 1 < w1.heap.size := hR.2.2.2.2
    clear hQ hS hR
    go_wp2_with fail
    go_region_held3 (fun W => (W.cell? ⟨w1.heap.size, 0, none⟩ = some (.bool N) ∧ W.cell? ⟨w1.heap.size, 1, none⟩ = some (.int .i8 C) ∧ W.cell? ⟨w1.heap.size, 2, none⟩ = some (.int .i16 V) ∧ W.cell? ⟨w1.heap.size, 3, none⟩ = some (.int .u64 (R : Int)) ∧ (∀ o, W.frozen? ⟨w1.heap.size, o, none⟩ = false) ∧ w1.heap.size < W.heap.size) ∧ Below w.heap.size w W)
      ((repeat' (first | with_reducible assumption | with_reducible refine q4_drew ?_ | with_reducible refine q4_store ?_ ?_ | (simp only [World.size_alloc, World.size_drew, World.size_setCell]; omega) | omega)))
      ((go_at_call 75; refine Calls.mono (HWH.out _) ?_; rintro _ w4 ⟨a2, k2, c2, rfl, hN, hb⟩; have hQ4 := q4_next (by with_reducible assumption) hb; have hR4 := bx3_next (bx3_drew hR2) hb; have HN5 : Hid (NatIs 2 w4 (.slice a2 k2 c2) 1) := hN; clear hb hN))
    go_wp2_with fail
    have hkp := store3 hR4 (not32_bool _) (not32_slice _ _ _) (not32_slice _ _ _) (.bool false) (.slice none 0 0) (.slice a2 k2 c2)
    refine bodyPost_ret (v := .tuple #[.agg #[.bool false, .slice none 0 0, .slice a2 k2 c2], .int .i8 C]) (by simp [results, Oajg.results26, go_sem, hR4]) rfl ⟨_, _, _, rfl, HN5.out.kp hkp, ?_⟩
    exact ((hQ4.2.setCell (Nat.le_succ _) _).setCell (Nat.le_succ _) _).setCell (Nat.le_succ _) _

end Go.Proofs.Ygcoaj
