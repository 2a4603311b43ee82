/-
  WALKS: exact.OfDec (212), RoundDecFlags (208), RoundDec (196).
-/
import Derived.Test.YgcoajRy7
import Derived.Test.YgcoajRnd3
set_option linter.unusedVariables false
set_option linter.unusedSimpArgs false
namespace Go.Proofs.Ygcoaj
open Go.RowKit

theorem q3_next {w W W' : World} {m0 : Nat} {x00 x01 x02 : Value} (h : (W.cell? ⟨m0, 0, none⟩ = some x00 ∧ W.cell? ⟨m0, 1, none⟩ = some x01 ∧ W.cell? ⟨m0, 2, none⟩ = some x02 ∧ (∀ o, W.frozen? ⟨m0, o, none⟩ = false) ∧ m0 < W.heap.size) ∧ Below w.heap.size w W) (hb : Below W.heap.size W W') : (W'.cell? ⟨m0, 0, none⟩ = some x00 ∧ W'.cell? ⟨m0, 1, none⟩ = some x01 ∧ W'.cell? ⟨m0, 2, none⟩ = some x02 ∧ (∀ o, W'.frozen? ⟨m0, o, none⟩ = false) ∧ m0 < W'.heap.size) ∧ Below w.heap.size w W' := ⟨bx3_next h.1 hb, below_then h.2 hb⟩
theorem q3_drew {w W : World} {m0 : Nat} {x00 x01 x02 : Value} (h : (W.cell? ⟨m0, 0, none⟩ = some x00 ∧ W.cell? ⟨m0, 1, none⟩ = some x01 ∧ W.cell? ⟨m0, 2, none⟩ = some x02 ∧ (∀ o, W.frozen? ⟨m0, o, none⟩ = false) ∧ m0 < W.heap.size) ∧ Below w.heap.size w W) : (W.drew.cell? ⟨m0, 0, none⟩ = some x00 ∧ W.drew.cell? ⟨m0, 1, none⟩ = some x01 ∧ W.drew.cell? ⟨m0, 2, none⟩ = some x02 ∧ (∀ o, W.drew.frozen? ⟨m0, o, none⟩ = false) ∧ m0 < W.drew.heap.size) ∧ Below w.heap.size w W.drew := ⟨bx3_drew h.1, h.2.drew⟩
theorem q3_alloc {w W : World} {m0 : Nat} {x00 x01 x02 : Value} (h : (W.cell? ⟨m0, 0, none⟩ = some x00 ∧ W.cell? ⟨m0, 1, none⟩ = some x01 ∧ W.cell? ⟨m0, 2, none⟩ = some x02 ∧ (∀ o, W.frozen? ⟨m0, o, none⟩ = false) ∧ m0 < W.heap.size) ∧ Below w.heap.size w W) (ob : Obj) : ((W.alloc ob).cell? ⟨m0, 0, none⟩ = some x00 ∧ (W.alloc ob).cell? ⟨m0, 1, none⟩ = some x01 ∧ (W.alloc ob).cell? ⟨m0, 2, none⟩ = some x02 ∧ (∀ o, (W.alloc ob).frozen? ⟨m0, o, none⟩ = false) ∧ m0 < (W.alloc ob).heap.size) ∧ Below w.heap.size w (W.alloc ob) := ⟨bx3_alloc h.1 ob, h.2.alloc h.2.size ob⟩
theorem q3_store {w W : World} {m0 : Nat} {x00 x01 x02 : Value} (h : (W.cell? ⟨m0, 0, none⟩ = some x00 ∧ W.cell? ⟨m0, 1, none⟩ = some x01 ∧ W.cell? ⟨m0, 2, none⟩ = some x02 ∧ (∀ o, W.frozen? ⟨m0, o, none⟩ = false) ∧ m0 < W.heap.size) ∧ Below w.heap.size w W) {p : Addr} {u : Value} (hp : w.heap.size ≤ p.block ∧ m0 ≠ p.block) : ((W.setCell p u).cell? ⟨m0, 0, none⟩ = some x00 ∧ (W.setCell p u).cell? ⟨m0, 1, none⟩ = some x01 ∧ (W.setCell p u).cell? ⟨m0, 2, none⟩ = some x02 ∧ (∀ o, (W.setCell p u).frozen? ⟨m0, o, none⟩ = false) ∧ m0 < (W.setCell p u).heap.size) ∧ Below w.heap.size w (W.setCell p u) := ⟨bx3_far h.1 hp.2, h.2.setCell hp.1 u⟩
theorem q23_next {w W W' : World} {m0 m1 : Nat} {x00 x01 x10 x11 x12 : Value} (h : (W.cell? ⟨m0, 0, none⟩ = some x00 ∧ W.cell? ⟨m0, 1, none⟩ = some x01 ∧ (∀ o, W.frozen? ⟨m0, o, none⟩ = false) ∧ m0 < W.heap.size) ∧ (W.cell? ⟨m1, 0, none⟩ = some x10 ∧ W.cell? ⟨m1, 1, none⟩ = some x11 ∧ W.cell? ⟨m1, 2, none⟩ = some x12 ∧ (∀ o, W.frozen? ⟨m1, o, none⟩ = false) ∧ m1 < W.heap.size) ∧ Below w.heap.size w W) (hb : Below W.heap.size W W') : (W'.cell? ⟨m0, 0, none⟩ = some x00 ∧ W'.cell? ⟨m0, 1, none⟩ = some x01 ∧ (∀ o, W'.frozen? ⟨m0, o, none⟩ = false) ∧ m0 < W'.heap.size) ∧ (W'.cell? ⟨m1, 0, none⟩ = some x10 ∧ W'.cell? ⟨m1, 1, none⟩ = some x11 ∧ W'.cell? ⟨m1, 2, none⟩ = some x12 ∧ (∀ o, W'.frozen? ⟨m1, o, none⟩ = false) ∧ m1 < W'.heap.size) ∧ Below w.heap.size w W' := ⟨bx2_next h.1 hb, bx3_next h.2.1 hb, below_then h.2.2 hb⟩
theorem q23_drew {w W : World} {m0 m1 : Nat} {x00 x01 x10 x11 x12 : Value} (h : (W.cell? ⟨m0, 0, none⟩ = some x00 ∧ W.cell? ⟨m0, 1, none⟩ = some x01 ∧ (∀ o, W.frozen? ⟨m0, o, none⟩ = false) ∧ m0 < W.heap.size) ∧ (W.cell? ⟨m1, 0, none⟩ = some x10 ∧ W.cell? ⟨m1, 1, none⟩ = some x11 ∧ W.cell? ⟨m1, 2, none⟩ = some x12 ∧ (∀ o, W.frozen? ⟨m1, o, none⟩ = false) ∧ m1 < W.heap.size) ∧ Below w.heap.size w W) : (W.drew.cell? ⟨m0, 0, none⟩ = some x00 ∧ W.drew.cell? ⟨m0, 1, none⟩ = some x01 ∧ (∀ o, W.drew.frozen? ⟨m0, o, none⟩ = false) ∧ m0 < W.drew.heap.size) ∧ (W.drew.cell? ⟨m1, 0, none⟩ = some x10 ∧ W.drew.cell? ⟨m1, 1, none⟩ = some x11 ∧ W.drew.cell? ⟨m1, 2, none⟩ = some x12 ∧ (∀ o, W.drew.frozen? ⟨m1, o, none⟩ = false) ∧ m1 < W.drew.heap.size) ∧ Below w.heap.size w W.drew := ⟨bx2_drew h.1, bx3_drew h.2.1, h.2.2.drew⟩
theorem q23_alloc {w W : World} {m0 m1 : Nat} {x00 x01 x10 x11 x12 : Value} (h : (W.cell? ⟨m0, 0, none⟩ = some x00 ∧ W.cell? ⟨m0, 1, none⟩ = some x01 ∧ (∀ o, W.frozen? ⟨m0, o, none⟩ = false) ∧ m0 < W.heap.size) ∧ (W.cell? ⟨m1, 0, none⟩ = some x10 ∧ W.cell? ⟨m1, 1, none⟩ = some x11 ∧ W.cell? ⟨m1, 2, none⟩ = some x12 ∧ (∀ o, W.frozen? ⟨m1, o, none⟩ = false) ∧ m1 < W.heap.size) ∧ Below w.heap.size w W) (ob : Obj) : ((W.alloc ob).cell? ⟨m0, 0, none⟩ = some x00 ∧ (W.alloc ob).cell? ⟨m0, 1, none⟩ = some x01 ∧ (∀ o, (W.alloc ob).frozen? ⟨m0, o, none⟩ = false) ∧ m0 < (W.alloc ob).heap.size) ∧ ((W.alloc ob).cell? ⟨m1, 0, none⟩ = some x10 ∧ (W.alloc ob).cell? ⟨m1, 1, none⟩ = some x11 ∧ (W.alloc ob).cell? ⟨m1, 2, none⟩ = some x12 ∧ (∀ o, (W.alloc ob).frozen? ⟨m1, o, none⟩ = false) ∧ m1 < (W.alloc ob).heap.size) ∧ Below w.heap.size w (W.alloc ob) := ⟨bx2_alloc h.1 ob, bx3_alloc h.2.1 ob, h.2.2.alloc h.2.2.size ob⟩
theorem q23_store {w W : World} {m0 m1 : Nat} {x00 x01 x10 x11 x12 : Value} (h : (W.cell? ⟨m0, 0, none⟩ = some x00 ∧ W.cell? ⟨m0, 1, none⟩ = some x01 ∧ (∀ o, W.frozen? ⟨m0, o, none⟩ = false) ∧ m0 < W.heap.size) ∧ (W.cell? ⟨m1, 0, none⟩ = some x10 ∧ W.cell? ⟨m1, 1, none⟩ = some x11 ∧ W.cell? ⟨m1, 2, none⟩ = some x12 ∧ (∀ o, W.frozen? ⟨m1, o, none⟩ = false) ∧ m1 < W.heap.size) ∧ Below w.heap.size w W) {p : Addr} {u : Value} (hp : w.heap.size ≤ p.block ∧ m0 ≠ p.block ∧ m1 ≠ p.block) : ((W.setCell p u).cell? ⟨m0, 0, none⟩ = some x00 ∧ (W.setCell p u).cell? ⟨m0, 1, none⟩ = some x01 ∧ (∀ o, (W.setCell p u).frozen? ⟨m0, o, none⟩ = false) ∧ m0 < (W.setCell p u).heap.size) ∧ ((W.setCell p u).cell? ⟨m1, 0, none⟩ = some x10 ∧ (W.setCell p u).cell? ⟨m1, 1, none⟩ = some x11 ∧ (W.setCell p u).cell? ⟨m1, 2, none⟩ = some x12 ∧ (∀ o, (W.setCell p u).frozen? ⟨m1, o, none⟩ = false) ∧ m1 < (W.setCell p u).heap.size) ∧ Below w.heap.size w (W.setCell p u) := ⟨bx2_far h.1 hp.2.1, bx3_far h.2.1 hp.2.2, h.2.2.setCell hp.1 u⟩

set_option maxRecDepth 100000 in
set_option maxHeartbeats 2000000 in
theorem ofDec_ok (neg : Bool) (n L : Nat) (k : Int) (hL1 : 1 ≤ L) (hL2 : L ≤ 18) (hz : n % 10 ≠ 0) (hlow : 10 ^ (L - 1) ≤ n) (hlt : n < 10 ^ L) (hk1 : -2000 ≤ k) (hk2 : k ≤ 2000) (w : World) :
    Calls Oajg.prog 212 #[.agg #[.bool neg, .string (dstr L n), .int .i16 k]] w fun x w' => ∃ a1 k1 c1 a2 k2 c2, x = .returned (.agg #[.bool neg, .slice a1 k1 c1, .slice a2 k2 c2]) ∧ NatIs 10048 w' (.slice a1 k1 c1) (n * 10 ^ k.toNat) ∧ NatIs 10048 w' (.slice a2 k2 c2) (10 ^ (-k).toNat) ∧ Below w.heap.size w w' := by
  have HOK := hid_mk (decOk_ok neg n L k hL1 hL2 hz hlow hlt hk1 hk2)
  have HOD := hid_mk (ofDigits_ok n L hL2 hlt)
  clear hz hlow hlt
  generalize dstr L n = s at *
  have hS : (((w.alloc (.cells #[.bool neg, .string s, .int .i16 k] 69)).alloc (.cells #[.bool false, .slice none 0 0, .slice none 0 0] 48)).cell? ⟨w.heap.size, 0, none⟩ = some (.bool neg) ∧ ((w.alloc (.cells #[.bool neg, .string s, .int .i16 k] 69)).alloc (.cells #[.bool false, .slice none 0 0, .slice none 0 0] 48)).cell? ⟨w.heap.size, 1, none⟩ = some (.string s) ∧ ((w.alloc (.cells #[.bool neg, .string s, .int .i16 k] 69)).alloc (.cells #[.bool false, .slice none 0 0, .slice none 0 0] 48)).cell? ⟨w.heap.size, 2, none⟩ = some (.int .i16 k) ∧ (∀ o, ((w.alloc (.cells #[.bool neg, .string s, .int .i16 k] 69)).alloc (.cells #[.bool false, .slice none 0 0, .slice none 0 0] 48)).frozen? ⟨w.heap.size, o, none⟩ = false) ∧ w.heap.size < ((w.alloc (.cells #[.bool neg, .string s, .int .i16 k] 69)).alloc (.cells #[.bool false, .slice none 0 0, .slice none 0 0] 48)).heap.size) ∧ Below w.heap.size w ((w.alloc (.cells #[.bool neg, .string s, .int .i16 k] 69)).alloc (.cells #[.bool false, .slice none 0 0, .slice none 0 0] 48)) := ⟨bx3_alloc (bx3_made w (m := w.heap.size) _ _ _ 69 rfl) _, ((Below.refl _ _).alloc (Nat.le_refl _) _).alloc (by simp) _⟩
  have hR := bx3_made (w.alloc (.cells #[.bool neg, .string s, .int .i16 k] 69)) (m := w.heap.size + 1) (.bool false) (.slice none 0 0) (.slice none 0 0) 48 (by simp)
  by_cases hk : k < 0
  · obtain ⟨K, hKe⟩ : ∃ K : Nat, (K : Int) = -k := ⟨(-k).toNat, by omega⟩
    have HP := hid_mk (pow10_ok K (by omega))
    have kw : IntKind.i64.wrap k = k := by rw [IntKind.wrap_i64]; omega
    have kw2 : IntKind.i64.wrap (-k) = (K : Int) := by rw [IntKind.wrap_i64]; omega
    have e1 : k.toNat = 0 := by omega
    have e2 : (-k).toNat = K := by omega
    rw [e1, e2, Nat.pow_zero, Nat.mul_one]
    clear e1 e2 hKe
    go_enter Oajg.func212, Oajg.ntmps212
    go_wp2_with fail
    refine Calls.mono (HOK.out _) ?_
    rintro _ w1 ⟨rfl, hb⟩
    replace hS := q3_next hS hb
    replace hR := bx3_next hR hb
    clear hb HOK
    go_wp2_with fail
    refine Calls.mono (HOD.out _) ?_
    rintro _ w2 ⟨b1, l1, e1, rfl, hN, hb⟩
    replace hS := q3_next hS hb
    replace hR := bx3_next hR hb
    have HN := hid_mk hN
    clear hb hN HOD
    go_wp2_with fail
    go_region_held3 (fun W => (W.cell? ⟨w.heap.size, 0, none⟩ = some (.bool neg) ∧ W.cell? ⟨w.heap.size, 1, none⟩ = some (.string s) ∧ W.cell? ⟨w.heap.size, 2, none⟩ = some (.int .i16 k) ∧ (∀ o, W.frozen? ⟨w.heap.size, o, none⟩ = false) ∧ w.heap.size < W.heap.size) ∧ Below w.heap.size w W)
      ((repeat' (first | with_reducible assumption | with_reducible refine q3_drew ?_ | with_reducible refine q3_store ?_ ?_ | (simp only [World.size_alloc, World.size_drew, World.size_setCell]; omega) | omega)))
      ((go_at_call 207; (with_reducible refine Calls.mono (HP.out _) ?_); rintro _ w4 ⟨b2, l2, e2, rfl, hN, hb⟩; have hS4 := q3_next (by with_reducible assumption) hb; have hR4 := bx3_next (bx3_drew hR) hb; have HN1 := hid_mk (HN.out.kp ((Kp.refl w2).drew.trans (Kp.of hb))); have HN2 := hid_mk hN; clear hb hN))
    go_wp2_with fail
    have hkp := store3 hR4 (not32_bool _) (not32_slice _ _ _) (not32_slice _ _ _) (.bool neg) (.slice b1 l1 e1) (.slice b2 l2 e2)
    refine bodyPost_ret (v := .agg #[.bool neg, .slice b1 l1 e1, .slice b2 l2 e2]) (by simp [results, Oajg.results212, go_sem, hR4]) rfl ⟨_, _, _, _, _, _, rfl, (HN1.out.mono (by decide)).kp hkp, (HN2.out.mono (by decide)).kp hkp, ?_⟩
    exact ((hS4.2.setCell (Nat.le_succ _) _).setCell (Nat.le_succ _) _).setCell (Nat.le_succ _) _
  · obtain ⟨K, hKe⟩ : ∃ K : Nat, (K : Int) = k := ⟨k.toNat, by omega⟩
    have HP := hid_mk (pow10_ok K (by omega))
    subst hKe
    have e1 : ((K : Int)).toNat = K := Int.toNat_natCast K
    have e2 : (-(K : Int)).toNat = 0 := by omega
    rw [e1, e2, Nat.pow_zero]
    clear e1 e2 hk
    have hk' : ¬ (K : Int) < 0 := by omega
    have kw : IntKind.i64.wrap (K : Int) = (K : Int) := by rw [IntKind.wrap_i64]; omega
    go_enter Oajg.func212, Oajg.ntmps212
    go_wp2_with fail
    refine Calls.mono (HOK.out _) ?_
    rintro _ w1 ⟨rfl, hb⟩
    replace hS := q3_next hS hb
    replace hR := bx3_next hR hb
    clear hb HOK
    go_wp2_with fail
    refine Calls.mono (HOD.out _) ?_
    rintro _ w2 ⟨b1, l1, e1, rfl, hN, hb⟩
    replace hS := q3_next hS hb
    replace hR := bx3_next hR hb
    have HN := hid_mk hN
    clear hb hN HOD
    go_wp2_with fail
    go_region_held3 (fun W => (W.cell? ⟨w.heap.size, 0, none⟩ = some (.bool neg) ∧ W.cell? ⟨w.heap.size, 1, none⟩ = some (.string s) ∧ W.cell? ⟨w.heap.size, 2, none⟩ = some (.int .i16 (K : Int)) ∧ (∀ o, W.frozen? ⟨w.heap.size, o, none⟩ = false) ∧ w.heap.size < W.heap.size) ∧ Below w.heap.size w W)
      ((repeat' (first | with_reducible assumption | with_reducible refine q3_drew ?_ | with_reducible refine q3_store ?_ ?_ | (simp only [World.size_alloc, World.size_drew, World.size_setCell]; omega) | omega)))
      ((first | (go_at_call 207; (with_reducible refine Calls.mono (HP.out _) ?_); rintro _ w4 ⟨b2, l2, e2, rfl, hN, hb⟩; have hS4 := q3_next (by with_reducible assumption) hb; have hR4 := bx3_next (bx3_drew hR) hb; have HM := hid_mk (shaped (mul_any 1000 9048 _ _ _ _ w4 (HN.out.kp ((Kp.refl w2).drew.trans (Kp.of hb))) hN (by decide) (by decide))); clear hb hN) | (go_at_call 62; (with_reducible refine Calls.mono HM.out ?_); rintro _ w5 ⟨b3, l3, e3, rfl, hN, hb⟩; have hS5 := q3_next (by with_reducible assumption) hb; have hR5 := bx3_next hR4 hb; have HW := hid_mk (whole_ok neg b3 l3 e3 w5); have HN3 := hid_mk hN; clear hb hN) | (go_at_call 75; (with_reducible refine Calls.mono HW.out ?_); rintro _ w6 ⟨b4, l4, e4, rfl, hN, hb⟩; have hS6 := q3_next (by with_reducible assumption) hb; have hR6 := bx3_next hR5 hb; have HN4 := hid_mk hN; have HN5 := hid_mk (HN3.out.kept hb); clear hb hN)))
    go_wp2_with fail
    have hkp := store3 hR6 (not32_bool _) (not32_slice _ _ _) (not32_slice _ _ _) (.bool neg) (.slice b3 l3 e3) (.slice b4 l4 e4)
    refine bodyPost_ret (v := .agg #[.bool neg, .slice b3 l3 e3, .slice b4 l4 e4]) (by simp [results, Oajg.results212, go_sem, hR6]) rfl ⟨_, _, _, _, _, _, rfl, (HN5.out.mono (by decide)).kp hkp, (HN4.out.mono (by decide)).kp hkp, ?_⟩
    exact ((hS6.2.setCell (Nat.le_succ _) _).setCell (Nat.le_succ _) _).setCell (Nat.le_succ _) _

set_option maxRecDepth 100000 in
set_option maxHeartbeats 2000000 in
theorem roundDecF_ok (E M : Nat) (h : FOk E M) (mo : Nat) (neg : Bool) (n L : Nat) (k : Int) (hL1 : 1 ≤ L) (hL2 : L ≤ 18) (hz : n % 10 ≠ 0) (hlow : 10 ^ (L - 1) ≤ n) (hlt : n < 10 ^ L) (hk1 : -2000 ≤ k) (hk2 : k ≤ 2000) (w : World) :
    Calls Oajg.prog 208 #[.agg #[.int .u8 (E : Int), .int .u8 (M : Int)], .int .u8 (mo : Int), .agg #[.bool neg, .string (dstr L n), .int .i16 k]] w fun x w' => x = .returned (.tuple #[.int .u64 (rfN E M mo neg (n * 10 ^ k.toNat) (10 ^ (-k).toNat) : Nat), .int .u8 (rfF E M mo neg (n * 10 ^ k.toNat) (10 ^ (-k).toNat) : Nat)]) ∧ Below w.heap.size w w' := by
  have HOK := hid_mk (decOk_ok neg n L k hL1 hL2 hz hlow hlt hk1 hk2)
  have HOD := hid_mk (ofDec_ok neg n L k hL1 hL2 hz hlow hlt hk1 hk2)
  have HRF : Hid (∀ a1 k1 c1 a2 k2 c2 W, NatIs 10048 W (.slice a1 k1 c1) (n * 10 ^ k.toNat) → NatIs 10048 W (.slice a2 k2 c2) (10 ^ (-k).toNat) → Calls Oajg.prog 67 #[.agg #[.int .u8 (E : Int), .int .u8 (M : Int)], .int .u8 (mo : Int), .agg #[.bool neg, .slice a1 k1 c1, .slice a2 k2 c2]] W fun e w' => e = .returned (.tuple #[.int .u64 (rfN E M mo neg (n * 10 ^ k.toNat) (10 ^ (-k).toNat) : Nat), .int .u8 (rfF E M mo neg (n * 10 ^ k.toNat) (10 ^ (-k).toNat) : Nat)]) ∧ Below W.heap.size W w') :=
    fun a1 k1 c1 a2 k2 c2 W h1 h2 => roundFlags_ok E M h mo neg 10048 _ _ a1 a2 k1 c1 k2 c2 W h1 h2 (by decide) (Nat.pos_iff_ne_zero.1 (t10 _))
  clear hz hlow hlt h
  generalize dstr L n = s at *
  generalize rfN E M mo neg (n * 10 ^ k.toNat) (10 ^ (-k).toNat) = RN at *
  generalize rfF E M mo neg (n * 10 ^ k.toNat) (10 ^ (-k).toNat) = RF at *
  generalize n * 10 ^ k.toNat = NN at *
  generalize 10 ^ (-k).toNat = DD at *
  have hS : (((w.alloc (.cells #[.int .u8 (E : Int), .int .u8 (M : Int)] 23)).alloc (.cells #[.bool neg, .string s, .int .i16 k] 69)).cell? ⟨w.heap.size, 0, none⟩ = some (.int .u8 (E : Int)) ∧ ((w.alloc (.cells #[.int .u8 (E : Int), .int .u8 (M : Int)] 23)).alloc (.cells #[.bool neg, .string s, .int .i16 k] 69)).cell? ⟨w.heap.size, 1, none⟩ = some (.int .u8 (M : Int)) ∧ (∀ o, ((w.alloc (.cells #[.int .u8 (E : Int), .int .u8 (M : Int)] 23)).alloc (.cells #[.bool neg, .string s, .int .i16 k] 69)).frozen? ⟨w.heap.size, o, none⟩ = false) ∧ w.heap.size < ((w.alloc (.cells #[.int .u8 (E : Int), .int .u8 (M : Int)] 23)).alloc (.cells #[.bool neg, .string s, .int .i16 k] 69)).heap.size) ∧ (((w.alloc (.cells #[.int .u8 (E : Int), .int .u8 (M : Int)] 23)).alloc (.cells #[.bool neg, .string s, .int .i16 k] 69)).cell? ⟨(w.heap.size + 1), 0, none⟩ = some (.bool neg) ∧ ((w.alloc (.cells #[.int .u8 (E : Int), .int .u8 (M : Int)] 23)).alloc (.cells #[.bool neg, .string s, .int .i16 k] 69)).cell? ⟨(w.heap.size + 1), 1, none⟩ = some (.string s) ∧ ((w.alloc (.cells #[.int .u8 (E : Int), .int .u8 (M : Int)] 23)).alloc (.cells #[.bool neg, .string s, .int .i16 k] 69)).cell? ⟨(w.heap.size + 1), 2, none⟩ = some (.int .i16 k) ∧ (∀ o, ((w.alloc (.cells #[.int .u8 (E : Int), .int .u8 (M : Int)] 23)).alloc (.cells #[.bool neg, .string s, .int .i16 k] 69)).frozen? ⟨(w.heap.size + 1), o, none⟩ = false) ∧ (w.heap.size + 1) < ((w.alloc (.cells #[.int .u8 (E : Int), .int .u8 (M : Int)] 23)).alloc (.cells #[.bool neg, .string s, .int .i16 k] 69)).heap.size) ∧ Below w.heap.size w ((w.alloc (.cells #[.int .u8 (E : Int), .int .u8 (M : Int)] 23)).alloc (.cells #[.bool neg, .string s, .int .i16 k] 69)) := ⟨bx2_alloc (bx2_made w (m := w.heap.size) _ _ 23 rfl) _, bx3_made (w.alloc (.cells #[.int .u8 (E : Int), .int .u8 (M : Int)] 23)) (m := w.heap.size + 1) _ _ _ 69 (by simp), ((Below.refl _ _).alloc (Nat.le_refl _) _).alloc (by simp) _⟩
  go_enter Oajg.func208, Oajg.ntmps208
  go_wp2_with fail
  refine Calls.mono (HOK.out _) ?_
  rintro _ w1 ⟨rfl, hb⟩
  replace hS := q23_next hS hb
  clear hb HOK
  go_wp2_with fail
  go_region_held3 (fun W => (W.cell? ⟨w.heap.size, 0, none⟩ = some (.int .u8 (E : Int)) ∧ W.cell? ⟨w.heap.size, 1, none⟩ = some (.int .u8 (M : Int)) ∧ (∀ o, W.frozen? ⟨w.heap.size, o, none⟩ = false) ∧ w.heap.size < W.heap.size) ∧ (W.cell? ⟨(w.heap.size + 1), 0, none⟩ = some (.bool neg) ∧ W.cell? ⟨(w.heap.size + 1), 1, none⟩ = some (.string s) ∧ W.cell? ⟨(w.heap.size + 1), 2, none⟩ = some (.int .i16 k) ∧ (∀ o, W.frozen? ⟨(w.heap.size + 1), o, none⟩ = false) ∧ (w.heap.size + 1) < W.heap.size) ∧ Below w.heap.size w W)
    ((repeat' (first | with_reducible assumption | with_reducible refine q23_drew ?_)))
    ((first | (go_at_call 212; (with_reducible refine Calls.mono (HOD.out _) ?_); rintro _ w4 ⟨b1, l1, e1, b2, l2, e2, rfl, hN1, hN2, hb⟩; have hS4 := q23_next (by with_reducible assumption) hb; have HC := hid_mk (HRF.out _ _ _ _ _ _ _ hN1 hN2); clear hb hN1 hN2) | (go_at_call 67; (with_reducible refine Calls.mono HC.out ?_); rintro _ w5 ⟨rfl, hb⟩; have hS5 := q23_next (by with_reducible assumption) hb; clear hb)))
  go_wp2_with fail
  refine bodyPost_ret (v := .tuple #[.int .u64 (RN : Int), .int .u8 (RF : Int)]) (by simp [results, Oajg.results208, go_sem]) rfl ⟨rfl, hS5.2.2⟩

set_option maxRecDepth 100000 in
set_option maxHeartbeats 2000000 in
theorem roundDec_ok (E M : Nat) (h : FOk E M) (mo : Nat) (neg : Bool) (n L : Nat) (k : Int) (hL1 : 1 ≤ L) (hL2 : L ≤ 18) (hz : n % 10 ≠ 0) (hlow : 10 ^ (L - 1) ≤ n) (hlt : n < 10 ^ L) (hk1 : -2000 ≤ k) (hk2 : k ≤ 2000) (w : World) :
    Calls Oajg.prog 196 #[.agg #[.int .u8 (E : Int), .int .u8 (M : Int)], .int .u8 (mo : Int), .agg #[.bool neg, .string (dstr L n), .int .i16 k]] w fun x w' => x = .returned (.int .u64 (rfN E M mo neg (n * 10 ^ k.toNat) (10 ^ (-k).toNat) : Nat)) ∧ Below w.heap.size w w' := by
  have HRF := hid_mk (roundDecF_ok E M h mo neg n L k hL1 hL2 hz hlow hlt hk1 hk2)
  clear hz hlow hlt h
  generalize dstr L n = s at *
  generalize rfN E M mo neg (n * 10 ^ k.toNat) (10 ^ (-k).toNat) = RN at *
  generalize rfF E M mo neg (n * 10 ^ k.toNat) (10 ^ (-k).toNat) = RF at *
  have hS : (((w.alloc (.cells #[.int .u8 (E : Int), .int .u8 (M : Int)] 23)).alloc (.cells #[.bool neg, .string s, .int .i16 k] 69)).cell? ⟨w.heap.size, 0, none⟩ = some (.int .u8 (E : Int)) ∧ ((w.alloc (.cells #[.int .u8 (E : Int), .int .u8 (M : Int)] 23)).alloc (.cells #[.bool neg, .string s, .int .i16 k] 69)).cell? ⟨w.heap.size, 1, none⟩ = some (.int .u8 (M : Int)) ∧ (∀ o, ((w.alloc (.cells #[.int .u8 (E : Int), .int .u8 (M : Int)] 23)).alloc (.cells #[.bool neg, .string s, .int .i16 k] 69)).frozen? ⟨w.heap.size, o, none⟩ = false) ∧ w.heap.size < ((w.alloc (.cells #[.int .u8 (E : Int), .int .u8 (M : Int)] 23)).alloc (.cells #[.bool neg, .string s, .int .i16 k] 69)).heap.size) ∧ (((w.alloc (.cells #[.int .u8 (E : Int), .int .u8 (M : Int)] 23)).alloc (.cells #[.bool neg, .string s, .int .i16 k] 69)).cell? ⟨(w.heap.size + 1), 0, none⟩ = some (.bool neg) ∧ ((w.alloc (.cells #[.int .u8 (E : Int), .int .u8 (M : Int)] 23)).alloc (.cells #[.bool neg, .string s, .int .i16 k] 69)).cell? ⟨(w.heap.size + 1), 1, none⟩ = some (.string s) ∧ ((w.alloc (.cells #[.int .u8 (E : Int), .int .u8 (M : Int)] 23)).alloc (.cells #[.bool neg, .string s, .int .i16 k] 69)).cell? ⟨(w.heap.size + 1), 2, none⟩ = some (.int .i16 k) ∧ (∀ o, ((w.alloc (.cells #[.int .u8 (E : Int), .int .u8 (M : Int)] 23)).alloc (.cells #[.bool neg, .string s, .int .i16 k] 69)).frozen? ⟨(w.heap.size + 1), o, none⟩ = false) ∧ (w.heap.size + 1) < ((w.alloc (.cells #[.int .u8 (E : Int), .int .u8 (M : Int)] 23)).alloc (.cells #[.bool neg, .string s, .int .i16 k] 69)).heap.size) ∧ Below w.heap.size w ((w.alloc (.cells #[.int .u8 (E : Int), .int .u8 (M : Int)] 23)).alloc (.cells #[.bool neg, .string s, .int .i16 k] 69)) := ⟨bx2_alloc (bx2_made w (m := w.heap.size) _ _ 23 rfl) _, bx3_made (w.alloc (.cells #[.int .u8 (E : Int), .int .u8 (M : Int)] 23)) (m := w.heap.size + 1) _ _ _ 69 (by simp), ((Below.refl _ _).alloc (Nat.le_refl _) _).alloc (by simp) _⟩
  go_enter Oajg.func196, Oajg.ntmps196
  go_wp2_with fail
  refine Calls.mono (HRF.out _) ?_
  rintro _ w1 ⟨rfl, hb⟩
  replace hS := q23_next hS hb
  clear hb HRF
  go_wp2_with fail
  go_ret
  exact ⟨rfl, hS.2.2⟩

end Go.Proofs.Ygcoaj
