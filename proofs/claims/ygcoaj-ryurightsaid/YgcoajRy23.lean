/-
  WALKS: ryu.Shortest (110) at a finite number that is not zero.
-/
import Derived.Test.YgcoajRy22
import Derived.Test.YgcoajRy15
import Derived.Test.YgcoajRy13
set_option linter.unusedVariables false
set_option linter.unusedSimpArgs false
namespace Go.Proofs.Ygcoaj
open Go.RowKit

theorem q23z_low {w W W' : World} {E M sb : Nat} (h : (W.cell? ⟨w.heap.size, 0, none⟩ = some (.int .u8 (E : Int)) ∧ W.cell? ⟨w.heap.size, 1, none⟩ = some (.int .u8 (M : Int)) ∧ (∀ o, W.frozen? ⟨w.heap.size, o, none⟩ = false) ∧ w.heap.size < W.heap.size) ∧ (W.cell? ⟨(w.heap.size + 1), 0, none⟩ = some (.bool false) ∧ W.cell? ⟨(w.heap.size + 1), 1, none⟩ = some (.string ⟨#[]⟩) ∧ W.cell? ⟨(w.heap.size + 1), 2, none⟩ = some (.int .i16 0) ∧ (∀ o, W.frozen? ⟨(w.heap.size + 1), o, none⟩ = false) ∧ (w.heap.size + 1) < W.heap.size) ∧ Below w.heap.size w W) (hb : Below sb W W') (hsb : w.heap.size + 1 < sb) : (W'.cell? ⟨w.heap.size, 0, none⟩ = some (.int .u8 (E : Int)) ∧ W'.cell? ⟨w.heap.size, 1, none⟩ = some (.int .u8 (M : Int)) ∧ (∀ o, W'.frozen? ⟨w.heap.size, o, none⟩ = false) ∧ w.heap.size < W'.heap.size) ∧ (W'.cell? ⟨(w.heap.size + 1), 0, none⟩ = some (.bool false) ∧ W'.cell? ⟨(w.heap.size + 1), 1, none⟩ = some (.string ⟨#[]⟩) ∧ W'.cell? ⟨(w.heap.size + 1), 2, none⟩ = some (.int .i16 0) ∧ (∀ o, W'.frozen? ⟨(w.heap.size + 1), o, none⟩ = false) ∧ (w.heap.size + 1) < W'.heap.size) ∧ Below w.heap.size w W' := by
  obtain ⟨⟨a1, a2, a3, a4⟩, ⟨b1, b2, b3, b4, b5⟩, hbe⟩ := h
  refine ⟨⟨?_, ?_, ?_, ?_⟩, ⟨?_, ?_, ?_, ?_, ?_⟩, hbe.trans (hb.mono (by omega))⟩
  · rw [hb.cell (p := ⟨w.heap.size, 0, none⟩) (by show w.heap.size < sb; omega)]; exact a1
  · rw [hb.cell (p := ⟨w.heap.size, 1, none⟩) (by show w.heap.size < sb; omega)]; exact a2
  · intro o; rw [hb.frozen (p := ⟨w.heap.size, o, none⟩) (by show w.heap.size < sb; omega)]; exact a3 o
  · exact Nat.lt_of_lt_of_le a4 hb.size
  · rw [hb.cell (p := ⟨w.heap.size + 1, 0, none⟩) hsb]; exact b1
  · rw [hb.cell (p := ⟨w.heap.size + 1, 1, none⟩) hsb]; exact b2
  · rw [hb.cell (p := ⟨w.heap.size + 1, 2, none⟩) hsb]; exact b3
  · intro o; rw [hb.frozen (p := ⟨w.heap.size + 1, o, none⟩) hsb]; exact b4 o
  · exact Nat.lt_of_lt_of_le b5 hb.size

set_option maxRecDepth 100000 in
set_option maxHeartbeats 8000000 in
theorem rs_raw (E M x tb m2 bel V Av Bv a v b D : Nat) (h : FOk E M) (hx : x < 18446744073709551616) (e2 q : Int) (vw aw bw en : Bool) (w : World)
    (hinf : fExp E M x ≠ 2 ^ E - 1) (hnz : fExp E M x ≠ 0 ∨ fMan M x ≠ 0)
    (hm2a : fExp E M x = 0 → m2 = fMan M x) (hm2b : fExp E M x ≠ 0 → m2 = fMan M x + 2 ^ M) (hm2 : m2 < 9007199254740992) (hm2p : 0 < m2)
    (hbel : bel = if fMan M x = 0 ∧ 1 < fExp E M x then 1 else 2)
    (he2 : e2 = (max (fExp E M x) 1 : Nat) - (biasN E : Int) - M - 2) (hen : en = decide (m2 % 2 = 0))
    (hBv : 1 ≤ Bv) (hBv2 : Bv < 4611686018427387904) (hq1 : -400 ≤ q) (hq2 : q ≤ 400)
    (HSV : Hid (∀ W, Below w.heap.size w W → Calls Oajg.prog 158 #[.pointer (some ⟨tb, 0, none⟩), .int .u64 ((4 * m2 : Nat) : Int), .int .i16 e2] W fun x w' => x = .returned (.tuple #[.int .u64 (V : Int), .bool vw]) ∧ Below W.heap.size W w')) (HSB2 : Hid (∀ W, Below w.heap.size w W → Calls Oajg.prog 158 #[.pointer (some ⟨tb, 0, none⟩), .int .u64 ((4 * m2 + 2 : Nat) : Int), .int .i16 e2] W fun x w' => x = .returned (.tuple #[.int .u64 (Bv : Int), .bool bw]) ∧ Below W.heap.size W w')) (HSA : Hid (∀ W, Below w.heap.size w W → Calls Oajg.prog 158 #[.pointer (some ⟨tb, 0, none⟩), .int .u64 ((4 * m2 - bel : Nat) : Int), .int .i16 e2] W fun x w' => x = .returned (.tuple #[.int .u64 (Av : Int), .bool aw]) ∧ Below W.heap.size W w'))
    (HLG : Hid (∀ W, Calls Oajg.prog 161 #[.int .i16 e2] W fun x w' => x = .returned (.int .i16 (q + 1)) ∧ w' = W))
    (HDG : Hid (∀ W sb, Blk W sb (spC (Av : Int) (V : Int) ((if bw = true ∧ en = false then Bv - 1 else Bv : Nat) : Int) aw vw en 0) 176 → Calls Oajg.prog 159 #[.pointer (some ⟨sb, 0, none⟩)] W fun x w' => ∃ J c : Nat, x = .returned (.tuple #[.int .u64 (c : Int), .int .i16 (J : Int)]) ∧ Short a v b D en J c ∧ 1 ≤ J ∧ J ≤ 19 ∧ 0 < c ∧ c < 10 ^ 18 ∧ Below sb W w')) :
    Calls Oajg.prog 110 #[.pointer (some ⟨tb, 0, none⟩), .agg #[.int .u8 (E : Int), .int .u8 (M : Int)], .int .u64 (x : Int)] w fun e w' => ∃ J c : Nat, e = .returned (decV (fNeg E M x) c (q + (J : Int))) ∧ Short a v b D en J c ∧ 1 ≤ J ∧ J ≤ 19 ∧ 0 < c ∧ c < 10 ^ 18 ∧ Below w.heap.size w w' := by
  have hS : (((w.alloc (.cells #[.int .u8 (E : Int), .int .u8 (M : Int)] 23)).alloc (.cells #[.bool false, .string ⟨#[]⟩, .int .i16 0] 69)).cell? ⟨w.heap.size, 0, none⟩ = some (.int .u8 (E : Int)) ∧ ((w.alloc (.cells #[.int .u8 (E : Int), .int .u8 (M : Int)] 23)).alloc (.cells #[.bool false, .string ⟨#[]⟩, .int .i16 0] 69)).cell? ⟨w.heap.size, 1, none⟩ = some (.int .u8 (M : Int)) ∧ (∀ o, ((w.alloc (.cells #[.int .u8 (E : Int), .int .u8 (M : Int)] 23)).alloc (.cells #[.bool false, .string ⟨#[]⟩, .int .i16 0] 69)).frozen? ⟨w.heap.size, o, none⟩ = false) ∧ w.heap.size < ((w.alloc (.cells #[.int .u8 (E : Int), .int .u8 (M : Int)] 23)).alloc (.cells #[.bool false, .string ⟨#[]⟩, .int .i16 0] 69)).heap.size) ∧ (((w.alloc (.cells #[.int .u8 (E : Int), .int .u8 (M : Int)] 23)).alloc (.cells #[.bool false, .string ⟨#[]⟩, .int .i16 0] 69)).cell? ⟨(w.heap.size + 1), 0, none⟩ = some (.bool false) ∧ ((w.alloc (.cells #[.int .u8 (E : Int), .int .u8 (M : Int)] 23)).alloc (.cells #[.bool false, .string ⟨#[]⟩, .int .i16 0] 69)).cell? ⟨(w.heap.size + 1), 1, none⟩ = some (.string ⟨#[]⟩) ∧ ((w.alloc (.cells #[.int .u8 (E : Int), .int .u8 (M : Int)] 23)).alloc (.cells #[.bool false, .string ⟨#[]⟩, .int .i16 0] 69)).cell? ⟨(w.heap.size + 1), 2, none⟩ = some (.int .i16 0) ∧ (∀ o, ((w.alloc (.cells #[.int .u8 (E : Int), .int .u8 (M : Int)] 23)).alloc (.cells #[.bool false, .string ⟨#[]⟩, .int .i16 0] 69)).frozen? ⟨(w.heap.size + 1), o, none⟩ = false) ∧ (w.heap.size + 1) < ((w.alloc (.cells #[.int .u8 (E : Int), .int .u8 (M : Int)] 23)).alloc (.cells #[.bool false, .string ⟨#[]⟩, .int .i16 0] 69)).heap.size) ∧ Below w.heap.size w ((w.alloc (.cells #[.int .u8 (E : Int), .int .u8 (M : Int)] 23)).alloc (.cells #[.bool false, .string ⟨#[]⟩, .int .i16 0] 69)) := ⟨bx2_alloc (bx2_made w (m := w.heap.size) _ _ 23 rfl) _, bx3_made _ (m := w.heap.size + 1) _ _ _ 69 (by simp), ((Below.refl _ _).alloc (Nat.le_refl _) _).alloc (by simp) _⟩
  have HOK := hid_mk (ok_yes h)
  have HSB := hid_mk (signBit_ok E M h)
  have HBI := hid_mk (bias_ok E M h)
  obtain ⟨h2, h11, h3, h52⟩ := h
  have q3 := biasN_le h11
  have p1 := pow2_lt64 (E + M) (by omega)
  have p2 := pow2_lt64 E (by omega)
  have p3 := pow2_pos E
  have p4 := pow2_lt64 M (by omega)
  have p5 := pow2_pos M
  have p6 : 2 ^ E ≤ 2048 := by have : 2 ^ E ≤ 2 ^ 11 := Nat.pow_le_pow_right (by decide) h11
                               omega
  have r1 : fExp E M x < 2 ^ E := Nat.mod_lt _ p3
  have r2 : fMan M x < 2 ^ M := Nat.mod_lt _ p5
  have k1 : bits .and .u64 (x : Int) ((2 ^ (E + M) : Nat) : Int) = ((x &&& 2 ^ (E + M) : Nat) : Int) := bits_and_u64_nat _ _ hx (by omega)
  have k2 : (((x &&& 2 ^ (E + M) : Nat) : Int) != 0) = fNeg E M x := and_pow_ne x (E + M)
  have k3 : IntKind.u64.wrap (IntKind.u64.wrap (2 ^ E) - 1) = ((2 ^ E - 1 : Nat) : Int) := by
    rw [wpow (by omega)]; exact wrap64' (by omega) (by omega)
  have k4 : bits .and .u64 ((x : Int) / 2 ^ M) ((2 ^ E - 1 : Nat) : Int) = ((fExp E M x : Nat) : Int) := by
    have e : (x : Int) / 2 ^ M = ((x / 2 ^ M : Nat) : Int) := by push_cast; rfl
    rw [e, bits_and_u64_nat _ _ (Nat.lt_of_le_of_lt (Nat.div_le_self _ _) hx) (by omega), Nat.and_two_pow_sub_one_eq_mod]; rfl
  have k5 : IntKind.u64.wrap (((2 ^ M : Nat) : Int) - 1) = ((2 ^ M - 1 : Nat) : Int) := wrap64' (by omega) (by omega)
  have k6 : bits .and .u64 (x : Int) ((2 ^ M - 1 : Nat) : Int) = ((fMan M x : Nat) : Int) := by
    rw [bits_and_u64_nat _ _ hx (by omega), Nat.and_two_pow_sub_one_eq_mod]; rfl
  have k7 : bits .or .u64 ((fMan M x : Nat) : Int) ((2 ^ M : Nat) : Int) = ((fMan M x + 2 ^ M : Nat) : Int) := by
    rw [bits_or_u64_nat _ _ (by omega) (by omega), or_top r2]
  have k8 : IntKind.u64.wrap (2 ^ M) = ((2 ^ M : Nat) : Int) := wpow (by omega)
  have k9 : min M 64 = M := by omega
  have k10 : IntKind.i16.wrap (IntKind.i16.wrap (2 ^ E) - 1) = ((2 ^ E - 1 : Nat) : Int) := by
    rw [show (2 : Int) ^ E = ((2 ^ E : Nat) : Int) from by push_cast; rfl]
    rw [show IntKind.i16.wrap ((2 ^ E : Nat) : Int) = ((2 ^ E : Nat) : Int) from by rw [i16_wrap]; omega, i16_wrap]; omega
  have k11 : IntKind.i16.wrap ((fExp E M x : Nat) : Int) = ((fExp E M x : Nat) : Int) := by rw [i16_wrap]; omega
  have bF : (((fExp E M x : Nat) : Int) == ((2 ^ E - 1 : Nat) : Int)) = false := by rw [beq_eq_false_iff_ne]; omega
  have HM2A := hid_mk hm2a
  have HM2B := hid_mk hm2b
  have HBEL := hid_mk hbel
  have HE2 := hid_mk he2
  have HEN := hid_mk hen
  have HNZ := hid_mk hnz
  clear p1 hm2a hm2b hbel he2 hen hinf hnz
  rw [show ((2 ^ (E - 1) - 1 : Nat) : Int) = (biasN E : Int) from rfl] at HBI
  generalize 2 ^ (E + M) = PS at k1 k2 HSB
  generalize x &&& PS = X1 at k1 k2
  generalize fNeg E M x = neg at k2 ⊢
  generalize fExp E M x = F at *
  generalize fMan M x = f at *
  generalize biasN E = B at *
  generalize 2 ^ M - 1 = P0 at k5 k6
  generalize f + 2 ^ M = R1 at *
  generalize 2 ^ M = P1 at k5 k7 k8 p4 p5 r2
  generalize 2 ^ E - 1 = P2 at *
  have hFz : ((F : Int) == 0) = decide (F = 0) := by
    by_cases h0 : F = 0
    · rw [decide_eq_true h0, beq_iff_eq]; omega
    · rw [decide_eq_false h0, beq_eq_false_iff_ne]; omega
  have hfz : ((f : Int) == 0) = decide (f = 0) := by
    by_cases h0 : f = 0
    · rw [decide_eq_true h0, beq_iff_eq]; omega
    · rw [decide_eq_false h0, beq_eq_false_iff_ne]; omega
  have HFz := hid_mk hFz
  have Hfz := hid_mk hfz
  have hdz : decide (F = 0) = false ∨ (decide (F = 0) = true ∧ decide (f = 0) = false) := by
    by_cases h0 : F = 0
    · right; exact ⟨decide_eq_true h0, decide_eq_false (HNZ.out.resolve_left (fun h => h h0))⟩
    · left; exact decide_eq_false h0
  clear hFz hfz
  go_enter Oajg.func110, Oajg.ntmps110
  go_wp2_with fail
  refine Calls.mono (HOK.out _) ?_
  rintro _ w1 ⟨rfl, hb⟩
  replace hS := q23z_next hS hb
  clear hb HOK
  go_wp2_with fail
  refine Calls.mono (HSB.out _) ?_
  rintro _ w2 ⟨rfl, hb⟩
  replace hS := q23z_next hS hb
  clear hb HSB
  by_cases hF0 : F = 0
  · have c1 : ¬ 1 ≤ (F : Int) := by omega
    have c2 : (F : Int) < 1 := by omega
    have c3 : ((F : Int) == 0) = true := by rw [HFz.out]; exact decide_eq_true hF0
    have c4 : ((f : Int) == 0) = false := by rw [Hfz.out]; exact decide_eq_false (HNZ.out.resolve_left (fun h => h hF0))
    have c5 : decide (0 < (F : Int)) = false := decide_eq_false (by omega)
    have hm := HM2A.out hF0
    clear HFz Hfz hdz
    have g1 : IntKind.i16.wrap (1 - (B : Int)) = 1 - (B : Int) := by rw [i16_wrap]; omega
    have g2 : IntKind.i16.wrap (1 - (B : Int) - (M : Int)) = 1 - (B : Int) - (M : Int) := by rw [i16_wrap]; omega
    have g3 : IntKind.i16.wrap (1 - (B : Int) - (M : Int) - 2) = e2 := by have := HE2.out; rw [i16_wrap]; omega
    have g5 : 1 - (B : Int) - (M : Int) - 2 = e2 := by have := HE2.out; omega
    have g4 : IntKind.i16.wrap (M : Int) = (M : Int) := by rw [i16_wrap]; omega
    have g6 : IntKind.i16.wrap e2 = e2 := by have := HE2.out; rw [i16_wrap]; omega
    clear HE2 HNZ HM2A HM2B hF0
    subst hm
    go_wp2_with fail
    go_cut [10, 11] (fun s10 s11 W => s10 = .int .u64 (m2 : Int) ∧ s11 = .int .i16 e2 ∧ (W.cell? ⟨w.heap.size, 0, none⟩ = some (.int .u8 (E : Int)) ∧ W.cell? ⟨w.heap.size, 1, none⟩ = some (.int .u8 (M : Int)) ∧ (∀ o, W.frozen? ⟨w.heap.size, o, none⟩ = false) ∧ w.heap.size < W.heap.size) ∧ (W.cell? ⟨(w.heap.size + 1), 0, none⟩ = some (.bool false) ∧ W.cell? ⟨(w.heap.size + 1), 1, none⟩ = some (.string ⟨#[]⟩) ∧ W.cell? ⟨(w.heap.size + 1), 2, none⟩ = some (.int .i16 0) ∧ (∀ o, W.frozen? ⟨(w.heap.size + 1), o, none⟩ = false) ∧ (w.heap.size + 1) < W.heap.size) ∧ Below w.heap.size w W)
    case first =>
      clear HSV HSB2 HSA HLG HDG HBEL HEN k1 k2 k3 k4 k5 k6 k10
      go_region_held3 (fun W => (W.cell? ⟨w.heap.size, 0, none⟩ = some (.int .u8 (E : Int)) ∧ W.cell? ⟨w.heap.size, 1, none⟩ = some (.int .u8 (M : Int)) ∧ (∀ o, W.frozen? ⟨w.heap.size, o, none⟩ = false) ∧ w.heap.size < W.heap.size) ∧ (W.cell? ⟨(w.heap.size + 1), 0, none⟩ = some (.bool false) ∧ W.cell? ⟨(w.heap.size + 1), 1, none⟩ = some (.string ⟨#[]⟩) ∧ W.cell? ⟨(w.heap.size + 1), 2, none⟩ = some (.int .i16 0) ∧ (∀ o, W.frozen? ⟨(w.heap.size + 1), o, none⟩ = false) ∧ (w.heap.size + 1) < W.heap.size) ∧ Below w.heap.size w W)
        ((repeat' (first | with_reducible assumption | with_reducible refine q23z_drew ?_ | with_reducible refine q23z_alloc ?_ _ | omega)))
        ((go_at_call 129; (with_reducible refine Calls.mono (HBI.out _) ?_); rintro _ wb ⟨rfl, hb⟩; have hSb := q23z_next (by with_reducible assumption) hb; clear hb))
      all_goals go_wp2_with fail
      all_goals go_meet
      all_goals exact ⟨by first | rfl | trivial, by first | rfl | trivial | (simp [*]; done) | (congr 1), by first | with_reducible assumption | exact q23z_drew hSb⟩
    case rest =>
    clear hS HBI k1 k2 k3 k4 k5 k6 k10 bF g1 g2 g3 g4 g5
    obtain ⟨rfl, rfl, hS⟩ := hcut
    have hbel := HBEL.out
    clear HBEL
    have hbb : (((m2 : Int) == 0) = false ∧ bel = 2) ∨ (((m2 : Int) == 0) = true ∧ decide (1 < (F : Int)) = false ∧ ¬ 1 < (F : Int) ∧ bel = 2) ∨ (((m2 : Int) == 0) = true ∧ decide (1 < (F : Int)) = true ∧ 1 < (F : Int) ∧ bel = 1) := by
      by_cases h0 : m2 = 0
      · by_cases h1 : 1 < F
        · right; right; exact ⟨by rw [beq_iff_eq]; omega, decide_eq_true (by omega), by omega, by rw [hbel, if_pos ⟨h0, h1⟩]⟩
        · right; left; exact ⟨by rw [beq_iff_eq]; omega, decide_eq_false (by omega), by omega, by rw [hbel, if_neg (fun h => h1 h.2)]⟩
      · left; exact ⟨by rw [beq_eq_false_iff_ne]; omega, by rw [hbel, if_neg (fun h => h0 h.1)]⟩
    have hbr : bel = 1 ∨ bel = 2 := by rcases hbb with ⟨_, h⟩ | ⟨_, _, _, h⟩ | ⟨_, _, _, h⟩ <;> omega
    clear hbel
    clear g6
    go_upto_region 14 with (fail)
    go_cut [88] (fun s88 W => s88 = .bool (decide (bel = 1)) ∧ (W.cell? ⟨w.heap.size, 0, none⟩ = some (.int .u8 (E : Int)) ∧ W.cell? ⟨w.heap.size, 1, none⟩ = some (.int .u8 (M : Int)) ∧ (∀ o, W.frozen? ⟨w.heap.size, o, none⟩ = false) ∧ w.heap.size < W.heap.size) ∧ (W.cell? ⟨(w.heap.size + 1), 0, none⟩ = some (.bool false) ∧ W.cell? ⟨(w.heap.size + 1), 1, none⟩ = some (.string ⟨#[]⟩) ∧ W.cell? ⟨(w.heap.size + 1), 2, none⟩ = some (.int .i16 0) ∧ (∀ o, W.frozen? ⟨(w.heap.size + 1), o, none⟩ = false) ∧ (w.heap.size + 1) < W.heap.size) ∧ Below w.heap.size w W)
    case first =>
      clear HSV HSB2 HSA HLG HDG HEN k7 hbr
      rcases hbb with ⟨z1, z2⟩ | ⟨z1, z2, z3, z4⟩ | ⟨z1, z2, z3, z4⟩
      · have HZ := hid_mk z2
        clear z2
        go_wp2_with fail
        go_meet
        exact ⟨by rw [HZ.out]; rfl, hS⟩
      · exact absurd (z1.symm.trans c4) (by decide)
      · exact absurd (z1.symm.trans c4) (by decide)
    case rest =>
    clear hS hbb
    obtain ⟨rfl, hS⟩ := hcut
    go_upto_if 88 with (fail)
    go_cut [12] (fun s12 W => s12 = .int .u64 (bel : Int) ∧ (W.cell? ⟨w.heap.size, 0, none⟩ = some (.int .u8 (E : Int)) ∧ W.cell? ⟨w.heap.size, 1, none⟩ = some (.int .u8 (M : Int)) ∧ (∀ o, W.frozen? ⟨w.heap.size, o, none⟩ = false) ∧ w.heap.size < W.heap.size) ∧ (W.cell? ⟨(w.heap.size + 1), 0, none⟩ = some (.bool false) ∧ W.cell? ⟨(w.heap.size + 1), 1, none⟩ = some (.string ⟨#[]⟩) ∧ W.cell? ⟨(w.heap.size + 1), 2, none⟩ = some (.int .i16 0) ∧ (∀ o, W.frozen? ⟨(w.heap.size + 1), o, none⟩ = false) ∧ (w.heap.size + 1) < W.heap.size) ∧ Below w.heap.size w W)
    case first =>
      clear HSV HSB2 HSA HLG HDG HEN k7
      rcases hbr with rfl | rfl
      all_goals (
        go_wp2_with fail
        go_meet
        exact ⟨rfl, hS⟩)
    case rest =>
    clear hS k7
    obtain ⟨rfl, hS⟩ := hcut
    obtain ⟨N4, hN4⟩ : ∃ N4, N4 = 4 * m2 := ⟨_, rfl⟩
    obtain ⟨NB, hNB⟩ : ∃ NB, NB = N4 + 2 := ⟨_, rfl⟩
    obtain ⟨NA, hNA⟩ : ∃ NA, NA = N4 - bel := ⟨_, rfl⟩
    rw [← hN4] at HSV HSB2 HSA
    rw [← hNB] at HSB2
    rw [← hNA] at HSA
    have kN1 : 4 * (m2 : Int) = (N4 : Int) := by omega
    have kN2 : (N4 : Int) + 2 = (NB : Int) := by omega
    have kN3 : (N4 : Int) - (bel : Int) = (NA : Int) := by omega
    have kN4 : IntKind.u64.wrap (N4 : Int) = (N4 : Int) := by rw [IntKind.wrap_u64]; omega
    have kN5 : IntKind.u64.wrap (NB : Int) = (NB : Int) := by rw [IntKind.wrap_u64]; omega
    have kN6 : IntKind.u64.wrap (NA : Int) = (NA : Int) := by rw [IntKind.wrap_u64]; omega
    have kE1 : bits .and .u64 (m2 : Int) 1 = ((m2 % 2 : Nat) : Int) := by
      have e := bits_and_u64_nat m2 1 (by omega) (by decide)
      rw [show m2 &&& 1 = m2 % 2 from Nat.and_one_is_mod m2] at e
      exact e
    obtain ⟨R2, hR2⟩ : ∃ R2, R2 = m2 % 2 := ⟨_, rfl⟩
    rw [← hR2] at kE1
    have kE2 : ((R2 : Int) == 0) = en := by
      rw [HEN.out, ← hR2]
      by_cases h0 : R2 = 0
      · rw [decide_eq_true h0, beq_iff_eq]; omega
      · rw [decide_eq_false h0, beq_eq_false_iff_ne]; omega
    clear hN4 hNB hNA hR2 HEN
    have hS2 := q23z_alloc hS (.cells #[.int .u64 0, .int .u64 0, .int .u64 0, .bool false, .bool false, .bool false, .int .u64 0] 176)
    have hsp : Blk (wc.alloc (.cells #[.int .u64 0, .int .u64 0, .int .u64 0, .bool false, .bool false, .bool false, .int .u64 0] 176)) wc.heap.size (spC 0 0 0 false false false 0) 176 := Blk.made _ _ _
    have hsb : w.heap.size + 1 < wc.heap.size := hS.2.1.2.2.2.2
    clear hS
    go_wp2_with fail
    generalize wc.alloc (.cells #[.int .u64 0, .int .u64 0, .int .u64 0, .bool false, .bool false, .bool false, .int .u64 0] 176) = wd at *
    generalize wc.heap.size = sb at *
    have hpp : w.heap.size ≤ sb ∧ w.heap.size ≠ sb ∧ w.heap.size + 1 ≠ sb := by omega
    refine Calls.mono (HSV.out _ hS2.2.2) ?_
    rintro _ w3 ⟨rfl, hb⟩
    replace hsp := hsp.next hb
    replace hS2 := q23z_next hS2 hb
    clear hb HSV
    obtain ⟨hm0, hm1, hm2', hm3, hm4, hm5, hm6, hm7, hm8⟩ := sp_cells hsp
    have hsp1 : Blk ((w3.setCell ⟨sb, 1, none⟩ (.int .u64 (V : Int))).setCell ⟨sb, 4, none⟩ (.bool vw)) sb (spC 0 V 0 false vw false 0) 176 := (hsp.set 1 _).set 4 _
    have hS3 := q23z_store (q23z_store hS2 (p := ⟨sb, 1, none⟩) (u := .int .u64 (V : Int)) hpp) (p := ⟨sb, 4, none⟩) (u := .bool vw) hpp
    clear hS2 hsp
    go_wp2_with fail
    generalize (w3.setCell ⟨sb, 1, none⟩ (.int .u64 (V : Int))).setCell ⟨sb, 4, none⟩ (.bool vw) = wd3 at *
    clear hm0 hm1 hm2' hm3 hm4 hm5 hm6 hm7 hm8
    refine Calls.mono (HSB2.out _ hS3.2.2) ?_
    rintro _ w4 ⟨rfl, hb⟩
    replace hsp1 := hsp1.next hb
    replace hS3 := q23z_next hS3 hb
    clear hb HSB2
    obtain ⟨hm0, hm1, hm2', hm3, hm4, hm5, hm6, hm7, hm8⟩ := sp_cells hsp1
    have hsp2 : Blk (w4.setCell ⟨sb, 2, none⟩ (.int .u64 (Bv : Int))) sb (spC 0 V Bv false vw false 0) 176 := hsp1.set 2 _
    have hS4 := q23z_store hS3 (p := ⟨sb, 2, none⟩) (u := .int .u64 (Bv : Int)) hpp
    clear hS3 hsp1
    go_wp2_with fail
    generalize w4.setCell ⟨sb, 2, none⟩ (.int .u64 (Bv : Int)) = wd4 at *
    clear hm0 hm1 hm2' hm3 hm4 hm5 hm6 hm7 hm8
    refine Calls.mono (HSA.out _ hS4.2.2) ?_
    rintro _ w5 ⟨rfl, hb⟩
    replace hsp2 := hsp2.next hb
    replace hS4 := q23z_next hS4 hb
    clear hb HSA
    obtain ⟨hm0, hm1, hm2', hm3, hm4, hm5, hm6, hm7, hm8⟩ := sp_cells hsp2
    have hsp3 : Blk (((w5.setCell ⟨sb, 0, none⟩ (.int .u64 (Av : Int))).setCell ⟨sb, 3, none⟩ (.bool aw)).setCell ⟨sb, 5, none⟩ (.bool en)) sb (spC Av V Bv aw vw en 0) 176 := ((hsp2.set 0 _).set 3 _).set 5 _
    have hS5 := q23z_store (q23z_store (q23z_store hS4 (p := ⟨sb, 0, none⟩) (u := .int .u64 (Av : Int)) hpp) (p := ⟨sb, 3, none⟩) (u := .bool aw) hpp) (p := ⟨sb, 5, none⟩) (u := .bool en) hpp
    clear hS4 hsp2
    go_upto_region 22 with (fail)
    generalize ((w5.setCell ⟨sb, 0, none⟩ (.int .u64 (Av : Int))).setCell ⟨sb, 3, none⟩ (.bool aw)).setCell ⟨sb, 5, none⟩ (.bool en) = wd5 at *
    clear hm0 hm1 hm2' hm3 hm4 hm5 hm6 hm7 hm8
    obtain ⟨hm0, hm1, hm2', hm3, hm4, hm5, hm6, hm7, hm8⟩ := sp_cells hsp3
    obtain ⟨bz, HBZ⟩ : ∃ bz, Hid (bz = (bw && !en)) := ⟨_, rfl⟩
    go_cut [130] (fun s130 W => s130 = .bool bz ∧ Blk W sb (spC (Av : Int) (V : Int) (Bv : Int) aw vw en 0) 176 ∧ (W.cell? ⟨w.heap.size, 0, none⟩ = some (.int .u8 (E : Int)) ∧ W.cell? ⟨w.heap.size, 1, none⟩ = some (.int .u8 (M : Int)) ∧ (∀ o, W.frozen? ⟨w.heap.size, o, none⟩ = false) ∧ w.heap.size < W.heap.size) ∧ (W.cell? ⟨(w.heap.size + 1), 0, none⟩ = some (.bool false) ∧ W.cell? ⟨(w.heap.size + 1), 1, none⟩ = some (.string ⟨#[]⟩) ∧ W.cell? ⟨(w.heap.size + 1), 2, none⟩ = some (.int .i16 0) ∧ (∀ o, W.frozen? ⟨(w.heap.size + 1), o, none⟩ = false) ∧ (w.heap.size + 1) < W.heap.size) ∧ Below w.heap.size w W)
    case first =>
      clear HLG HDG
      cases bw with
      | false =>
        go_wp2_with fail
        go_meet
        exact ⟨by rw [HBZ.out]; rfl, hsp3, hS5⟩
      | true =>
        cases en with
        | false =>
          go_wp2_with fail
          go_meet
          exact ⟨by rw [HBZ.out]; rfl, hsp3, hS5⟩
        | true =>
          go_wp2_with fail
          go_meet
          exact ⟨by rw [HBZ.out]; rfl, hsp3, hS5⟩
    case rest =>
    clear hm0 hm1 hm2' hm3 hm4 hm5 hm6 hm7 hm8 hsp3 hS5
    obtain ⟨rfl, hsp3, hS5⟩ := hcut
    obtain ⟨hm0, hm1, hm2', hm3, hm4, hm5, hm6, hm7, hm8⟩ := sp_cells hsp3
    go_upto_if 130 with (fail)
    go_cut [133] (fun _ W => Blk W sb (spC (Av : Int) (V : Int) ((if bw = true ∧ en = false then Bv - 1 else Bv : Nat) : Int) aw vw en 0) 176 ∧ (W.cell? ⟨w.heap.size, 0, none⟩ = some (.int .u8 (E : Int)) ∧ W.cell? ⟨w.heap.size, 1, none⟩ = some (.int .u8 (M : Int)) ∧ (∀ o, W.frozen? ⟨w.heap.size, o, none⟩ = false) ∧ w.heap.size < W.heap.size) ∧ (W.cell? ⟨(w.heap.size + 1), 0, none⟩ = some (.bool false) ∧ W.cell? ⟨(w.heap.size + 1), 1, none⟩ = some (.string ⟨#[]⟩) ∧ W.cell? ⟨(w.heap.size + 1), 2, none⟩ = some (.int .i16 0) ∧ (∀ o, W.frozen? ⟨(w.heap.size + 1), o, none⟩ = false) ∧ (w.heap.size + 1) < W.heap.size) ∧ Below w.heap.size w W)
    case first =>
      clear HLG HDG
      have kB : (Bv : Int) - 1 = ((Bv - 1 : Nat) : Int) := by omega
      obtain ⟨B1, hB1⟩ : ∃ B1, B1 = Bv - 1 := ⟨_, rfl⟩
      rw [← hB1] at kB
      have kB2 : IntKind.u64.wrap (B1 : Int) = (B1 : Int) := by rw [IntKind.wrap_u64]; omega
      have HB1 := hid_mk hB1
      clear hB1
      have hbz := HBZ.out
      clear HBZ
      cases bz with
      | false =>
        have HIF : Hid ((if bw = true ∧ en = false then Bv - 1 else Bv) = Bv) := by
          show (if bw = true ∧ en = false then Bv - 1 else Bv) = Bv
          rw [if_neg]
          rintro ⟨h1, h2⟩
          rw [h1, h2] at hbz
          exact absurd hbz (by decide)
        clear hbz
        go_wp2_with fail
        go_meet
        exact ⟨by rw [HIF.out]; exact hsp3, hS5⟩
      | true =>
        have HIF : Hid ((if bw = true ∧ en = false then Bv - 1 else Bv) = B1) := by
          show (if bw = true ∧ en = false then Bv - 1 else Bv) = B1
          rw [if_pos, HB1.out]
          cases bw <;> cases en <;> first | exact absurd hbz (by decide) | exact ⟨rfl, rfl⟩
        clear hbz
        go_wp2_with fail
        go_meet
        exact ⟨by rw [HIF.out]; exact hsp3.set 2 _, q23z_store hS5 hpp⟩
    case rest =>
    clear hm0 hm1 hm2' hm3 hm4 hm5 hm6 hm7 hm8 hsp3 hS5 kE1 kE2
    obtain ⟨hsp, hS⟩ := hcut
    have HDD := hid_mk (HDG.out _ _ hsp)
    clear hsp
    go_wp2_with fail
    refine Calls.mono HDD.out ?_
    rintro _ w7 ⟨J, c, rfl, hsh, hJ1, hJ2, hc1, hc2, hb⟩
    replace hS := q23z_low hS hb hsb
    have HSHT := hid_mk hsh
    have hc3 : c < 1000000000000000000 := hc2
    have HC2 := hid_mk hc2
    have kc : IntKind.i64.wrap (c : Int) = (c : Int) := by rw [IntKind.wrap_i64]; omega
    have HIT := hid_mk (itoa_nl c hc1 hc2)
    have HMK := hid_mk (make_nl neg c (q + (J : Int)) hc1 hc2 (by omega) (by omega))
    rw [decV_eq] at HMK
    obtain ⟨SD, HSD⟩ : ∃ SD, Hid (dvS c = SD) := ⟨_, rfl⟩
    obtain ⟨KX, HKX⟩ : ∃ KX, Hid (q + (J : Int) + (tz c : Int) = KX) := ⟨_, rfl⟩
    rw [HSD.out, HKX.out] at HMK
    have kq1 : IntKind.i16.wrap q = q := by rw [i16_wrap]; omega
    have kq2 : IntKind.i16.wrap (q + (J : Int)) = q + (J : Int) := by rw [i16_wrap]; omega
    clear hsh hb HDD HDG hc2
    generalize dstr (nl c) c = ST at *
    go_wp2_with fail
    refine Calls.mono (HIT.out _) ?_
    rintro _ w8 ⟨rfl, hb⟩
    replace hS := q23z_next hS hb
    clear hb HIT
    go_wp2_with fail
    refine Calls.mono (HLG.out _) ?_
    rintro _ w9 ⟨rfl, rfl⟩
    clear HLG
    go_wp2_with fail
    refine Calls.mono (HMK.out _) ?_
    rintro _ w10 ⟨rfl, hb⟩
    replace hS := q23z_next hS hb
    clear hb HMK
    have hR17 := bx3_made w10 (m := w10.heap.size) (.bool neg) (.string SD) (.int .i16 KX) 69 rfl
    have hR := (q23z_alloc hS (.cells #[.bool neg, .string SD, .int .i16 KX] 69)).2.1
    have HB := hid_mk (q23z_alloc hS (.cells #[.bool neg, .string SD, .int .i16 KX] 69)).2.2
    have n1 : w.heap.size + 1 ≠ w10.heap.size := by have := hS.2.1.2.2.2.2; omega
    clear hS hpp hsb kN1 kN2 kN3 kN4 kN5 kN6 kc kq1 kq2
    go_wp2_with fail
    exact bodyPost_ret (v := .agg #[.bool neg, .string SD, .int .i16 KX]) (by simp [results, Oajg.results110, go_sem, hR]) rfl ⟨J, c, by rw [decV_eq, HSD.out, HKX.out], HSHT.out, hJ1, hJ2, hc1, HC2.out, ((HB.out.setCell (p := ⟨w.heap.size + 1, 0, none⟩) (Nat.le_succ _) _).setCell (p := ⟨w.heap.size + 1, 1, none⟩) (Nat.le_succ _) _).setCell (p := ⟨w.heap.size + 1, 2, none⟩) (Nat.le_succ _) _⟩
  · have c1 : 1 ≤ (F : Int) := by omega
    have c2 : ¬ (F : Int) < 1 := by omega
    have c3 : ((F : Int) == 0) = false := by rw [HFz.out]; exact decide_eq_false hF0
    have c5 : decide (0 < (F : Int)) = true := decide_eq_true (by omega)
    have hm := HM2B.out hF0
    clear HFz Hfz hdz
    have g1 : IntKind.i16.wrap ((F : Int) - (B : Int)) = (F : Int) - (B : Int) := by rw [i16_wrap]; omega
    have g2 : IntKind.i16.wrap ((F : Int) - (B : Int) - (M : Int)) = (F : Int) - (B : Int) - (M : Int) := by rw [i16_wrap]; omega
    have g3 : IntKind.i16.wrap ((F : Int) - (B : Int) - (M : Int) - 2) = e2 := by have := HE2.out; rw [i16_wrap]; omega
    have g5 : (F : Int) - (B : Int) - (M : Int) - 2 = e2 := by have := HE2.out; omega
    have g4 : IntKind.i16.wrap (M : Int) = (M : Int) := by rw [i16_wrap]; omega
    have g6 : IntKind.i16.wrap e2 = e2 := by have := HE2.out; rw [i16_wrap]; omega
    clear HE2 HNZ HM2A HM2B hF0
    subst hm
    go_wp2_with fail
    go_cut [10, 11] (fun s10 s11 W => s10 = .int .u64 (f : Int) ∧ s11 = .int .i16 e2 ∧ (W.cell? ⟨w.heap.size, 0, none⟩ = some (.int .u8 (E : Int)) ∧ W.cell? ⟨w.heap.size, 1, none⟩ = some (.int .u8 (M : Int)) ∧ (∀ o, W.frozen? ⟨w.heap.size, o, none⟩ = false) ∧ w.heap.size < W.heap.size) ∧ (W.cell? ⟨(w.heap.size + 1), 0, none⟩ = some (.bool false) ∧ W.cell? ⟨(w.heap.size + 1), 1, none⟩ = some (.string ⟨#[]⟩) ∧ W.cell? ⟨(w.heap.size + 1), 2, none⟩ = some (.int .i16 0) ∧ (∀ o, W.frozen? ⟨(w.heap.size + 1), o, none⟩ = false) ∧ (w.heap.size + 1) < W.heap.size) ∧ Below w.heap.size w W)
    case first =>
      clear HSV HSB2 HSA HLG HDG HBEL HEN k1 k2 k3 k4 k5 k6 k10
      go_region_held3 (fun W => (W.cell? ⟨w.heap.size, 0, none⟩ = some (.int .u8 (E : Int)) ∧ W.cell? ⟨w.heap.size, 1, none⟩ = some (.int .u8 (M : Int)) ∧ (∀ o, W.frozen? ⟨w.heap.size, o, none⟩ = false) ∧ w.heap.size < W.heap.size) ∧ (W.cell? ⟨(w.heap.size + 1), 0, none⟩ = some (.bool false) ∧ W.cell? ⟨(w.heap.size + 1), 1, none⟩ = some (.string ⟨#[]⟩) ∧ W.cell? ⟨(w.heap.size + 1), 2, none⟩ = some (.int .i16 0) ∧ (∀ o, W.frozen? ⟨(w.heap.size + 1), o, none⟩ = false) ∧ (w.heap.size + 1) < W.heap.size) ∧ Below w.heap.size w W)
        ((repeat' (first | with_reducible assumption | with_reducible refine q23z_drew ?_ | with_reducible refine q23z_alloc ?_ _ | omega)))
        ((go_at_call 129; (with_reducible refine Calls.mono (HBI.out _) ?_); rintro _ wb ⟨rfl, hb⟩; have hSb := q23z_next (by with_reducible assumption) hb; clear hb))
      all_goals go_wp2_with fail
      all_goals go_meet
      all_goals exact ⟨by first | rfl | trivial, by first | rfl | trivial | (simp [*]; done) | (congr 1), by first | with_reducible assumption | exact q23z_drew hSb⟩
    case rest =>
    clear hS HBI k1 k2 k3 k4 k5 k6 k10 bF g1 g2 g3 g4 g5
    obtain ⟨rfl, rfl, hS⟩ := hcut
    have hbel := HBEL.out
    clear HBEL
    have hbb : (((f : Int) == 0) = false ∧ bel = 2) ∨ (((f : Int) == 0) = true ∧ decide (1 < (F : Int)) = false ∧ ¬ 1 < (F : Int) ∧ bel = 2) ∨ (((f : Int) == 0) = true ∧ decide (1 < (F : Int)) = true ∧ 1 < (F : Int) ∧ bel = 1) := by
      by_cases h0 : f = 0
      · by_cases h1 : 1 < F
        · right; right; exact ⟨by rw [beq_iff_eq]; omega, decide_eq_true (by omega), by omega, by rw [hbel, if_pos ⟨h0, h1⟩]⟩
        · right; left; exact ⟨by rw [beq_iff_eq]; omega, decide_eq_false (by omega), by omega, by rw [hbel, if_neg (fun h => h1 h.2)]⟩
      · left; exact ⟨by rw [beq_eq_false_iff_ne]; omega, by rw [hbel, if_neg (fun h => h0 h.1)]⟩
    have hbr : bel = 1 ∨ bel = 2 := by rcases hbb with ⟨_, h⟩ | ⟨_, _, _, h⟩ | ⟨_, _, _, h⟩ <;> omega
    clear hbel
    clear g6
    go_upto_region 14 with (fail)
    go_cut [88] (fun s88 W => s88 = .bool (decide (bel = 1)) ∧ (W.cell? ⟨w.heap.size, 0, none⟩ = some (.int .u8 (E : Int)) ∧ W.cell? ⟨w.heap.size, 1, none⟩ = some (.int .u8 (M : Int)) ∧ (∀ o, W.frozen? ⟨w.heap.size, o, none⟩ = false) ∧ w.heap.size < W.heap.size) ∧ (W.cell? ⟨(w.heap.size + 1), 0, none⟩ = some (.bool false) ∧ W.cell? ⟨(w.heap.size + 1), 1, none⟩ = some (.string ⟨#[]⟩) ∧ W.cell? ⟨(w.heap.size + 1), 2, none⟩ = some (.int .i16 0) ∧ (∀ o, W.frozen? ⟨(w.heap.size + 1), o, none⟩ = false) ∧ (w.heap.size + 1) < W.heap.size) ∧ Below w.heap.size w W)
    case first =>
      clear HSV HSB2 HSA HLG HDG HEN k7 hbr
      rcases hbb with ⟨z1, z2⟩ | ⟨z1, z2, z3, z4⟩ | ⟨z1, z2, z3, z4⟩
      · have HZ := hid_mk z2
        clear z2
        go_wp2_with fail
        go_meet
        exact ⟨by rw [HZ.out]; rfl, hS⟩
      · have HZ := hid_mk z4
        clear z4
        go_wp2_with fail
        go_meet
        exact ⟨by rw [HZ.out]; rfl, hS⟩
      · have HZ := hid_mk z4
        clear z4
        go_wp2_with fail
        go_meet
        exact ⟨by rw [HZ.out]; rfl, hS⟩
    case rest =>
    clear hS hbb
    obtain ⟨rfl, hS⟩ := hcut
    go_upto_if 88 with (fail)
    go_cut [12] (fun s12 W => s12 = .int .u64 (bel : Int) ∧ (W.cell? ⟨w.heap.size, 0, none⟩ = some (.int .u8 (E : Int)) ∧ W.cell? ⟨w.heap.size, 1, none⟩ = some (.int .u8 (M : Int)) ∧ (∀ o, W.frozen? ⟨w.heap.size, o, none⟩ = false) ∧ w.heap.size < W.heap.size) ∧ (W.cell? ⟨(w.heap.size + 1), 0, none⟩ = some (.bool false) ∧ W.cell? ⟨(w.heap.size + 1), 1, none⟩ = some (.string ⟨#[]⟩) ∧ W.cell? ⟨(w.heap.size + 1), 2, none⟩ = some (.int .i16 0) ∧ (∀ o, W.frozen? ⟨(w.heap.size + 1), o, none⟩ = false) ∧ (w.heap.size + 1) < W.heap.size) ∧ Below w.heap.size w W)
    case first =>
      clear HSV HSB2 HSA HLG HDG HEN k7
      rcases hbr with rfl | rfl
      all_goals (
        go_wp2_with fail
        go_meet
        exact ⟨rfl, hS⟩)
    case rest =>
    clear hS k7
    obtain ⟨rfl, hS⟩ := hcut
    obtain ⟨N4, hN4⟩ : ∃ N4, N4 = 4 * m2 := ⟨_, rfl⟩
    obtain ⟨NB, hNB⟩ : ∃ NB, NB = N4 + 2 := ⟨_, rfl⟩
    obtain ⟨NA, hNA⟩ : ∃ NA, NA = N4 - bel := ⟨_, rfl⟩
    rw [← hN4] at HSV HSB2 HSA
    rw [← hNB] at HSB2
    rw [← hNA] at HSA
    have kN1 : 4 * (m2 : Int) = (N4 : Int) := by omega
    have kN2 : (N4 : Int) + 2 = (NB : Int) := by omega
    have kN3 : (N4 : Int) - (bel : Int) = (NA : Int) := by omega
    have kN4 : IntKind.u64.wrap (N4 : Int) = (N4 : Int) := by rw [IntKind.wrap_u64]; omega
    have kN5 : IntKind.u64.wrap (NB : Int) = (NB : Int) := by rw [IntKind.wrap_u64]; omega
    have kN6 : IntKind.u64.wrap (NA : Int) = (NA : Int) := by rw [IntKind.wrap_u64]; omega
    have kE1 : bits .and .u64 (m2 : Int) 1 = ((m2 % 2 : Nat) : Int) := by
      have e := bits_and_u64_nat m2 1 (by omega) (by decide)
      rw [show m2 &&& 1 = m2 % 2 from Nat.and_one_is_mod m2] at e
      exact e
    obtain ⟨R2, hR2⟩ : ∃ R2, R2 = m2 % 2 := ⟨_, rfl⟩
    rw [← hR2] at kE1
    have kE2 : ((R2 : Int) == 0) = en := by
      rw [HEN.out, ← hR2]
      by_cases h0 : R2 = 0
      · rw [decide_eq_true h0, beq_iff_eq]; omega
      · rw [decide_eq_false h0, beq_eq_false_iff_ne]; omega
    clear hN4 hNB hNA hR2 HEN
    have hS2 := q23z_alloc hS (.cells #[.int .u64 0, .int .u64 0, .int .u64 0, .bool false, .bool false, .bool false, .int .u64 0] 176)
    have hsp : Blk (wc.alloc (.cells #[.int .u64 0, .int .u64 0, .int .u64 0, .bool false, .bool false, .bool false, .int .u64 0] 176)) wc.heap.size (spC 0 0 0 false false false 0) 176 := Blk.made _ _ _
    have hsb : w.heap.size + 1 < wc.heap.size := hS.2.1.2.2.2.2
    clear hS
    go_wp2_with fail
    generalize wc.alloc (.cells #[.int .u64 0, .int .u64 0, .int .u64 0, .bool false, .bool false, .bool false, .int .u64 0] 176) = wd at *
    generalize wc.heap.size = sb at *
    have hpp : w.heap.size ≤ sb ∧ w.heap.size ≠ sb ∧ w.heap.size + 1 ≠ sb := by omega
    refine Calls.mono (HSV.out _ hS2.2.2) ?_
    rintro _ w3 ⟨rfl, hb⟩
    replace hsp := hsp.next hb
    replace hS2 := q23z_next hS2 hb
    clear hb HSV
    obtain ⟨hm0, hm1, hm2', hm3, hm4, hm5, hm6, hm7, hm8⟩ := sp_cells hsp
    have hsp1 : Blk ((w3.setCell ⟨sb, 1, none⟩ (.int .u64 (V : Int))).setCell ⟨sb, 4, none⟩ (.bool vw)) sb (spC 0 V 0 false vw false 0) 176 := (hsp.set 1 _).set 4 _
    have hS3 := q23z_store (q23z_store hS2 (p := ⟨sb, 1, none⟩) (u := .int .u64 (V : Int)) hpp) (p := ⟨sb, 4, none⟩) (u := .bool vw) hpp
    clear hS2 hsp
    go_wp2_with fail
    generalize (w3.setCell ⟨sb, 1, none⟩ (.int .u64 (V : Int))).setCell ⟨sb, 4, none⟩ (.bool vw) = wd3 at *
    clear hm0 hm1 hm2' hm3 hm4 hm5 hm6 hm7 hm8
    refine Calls.mono (HSB2.out _ hS3.2.2) ?_
    rintro _ w4 ⟨rfl, hb⟩
    replace hsp1 := hsp1.next hb
    replace hS3 := q23z_next hS3 hb
    clear hb HSB2
    obtain ⟨hm0, hm1, hm2', hm3, hm4, hm5, hm6, hm7, hm8⟩ := sp_cells hsp1
    have hsp2 : Blk (w4.setCell ⟨sb, 2, none⟩ (.int .u64 (Bv : Int))) sb (spC 0 V Bv false vw false 0) 176 := hsp1.set 2 _
    have hS4 := q23z_store hS3 (p := ⟨sb, 2, none⟩) (u := .int .u64 (Bv : Int)) hpp
    clear hS3 hsp1
    go_wp2_with fail
    generalize w4.setCell ⟨sb, 2, none⟩ (.int .u64 (Bv : Int)) = wd4 at *
    clear hm0 hm1 hm2' hm3 hm4 hm5 hm6 hm7 hm8
    refine Calls.mono (HSA.out _ hS4.2.2) ?_
    rintro _ w5 ⟨rfl, hb⟩
    replace hsp2 := hsp2.next hb
    replace hS4 := q23z_next hS4 hb
    clear hb HSA
    obtain ⟨hm0, hm1, hm2', hm3, hm4, hm5, hm6, hm7, hm8⟩ := sp_cells hsp2
    have hsp3 : Blk (((w5.setCell ⟨sb, 0, none⟩ (.int .u64 (Av : Int))).setCell ⟨sb, 3, none⟩ (.bool aw)).setCell ⟨sb, 5, none⟩ (.bool en)) sb (spC Av V Bv aw vw en 0) 176 := ((hsp2.set 0 _).set 3 _).set 5 _
    have hS5 := q23z_store (q23z_store (q23z_store hS4 (p := ⟨sb, 0, none⟩) (u := .int .u64 (Av : Int)) hpp) (p := ⟨sb, 3, none⟩) (u := .bool aw) hpp) (p := ⟨sb, 5, none⟩) (u := .bool en) hpp
    clear hS4 hsp2
    go_upto_region 22 with (fail)
    generalize ((w5.setCell ⟨sb, 0, none⟩ (.int .u64 (Av : Int))).setCell ⟨sb, 3, none⟩ (.bool aw)).setCell ⟨sb, 5, none⟩ (.bool en) = wd5 at *
    clear hm0 hm1 hm2' hm3 hm4 hm5 hm6 hm7 hm8
    obtain ⟨hm0, hm1, hm2', hm3, hm4, hm5, hm6, hm7, hm8⟩ := sp_cells hsp3
    obtain ⟨bz, HBZ⟩ : ∃ bz, Hid (bz = (bw && !en)) := ⟨_, rfl⟩
    go_cut [130] (fun s130 W => s130 = .bool bz ∧ Blk W sb (spC (Av : Int) (V : Int) (Bv : Int) aw vw en 0) 176 ∧ (W.cell? ⟨w.heap.size, 0, none⟩ = some (.int .u8 (E : Int)) ∧ W.cell? ⟨w.heap.size, 1, none⟩ = some (.int .u8 (M : Int)) ∧ (∀ o, W.frozen? ⟨w.heap.size, o, none⟩ = false) ∧ w.heap.size < W.heap.size) ∧ (W.cell? ⟨(w.heap.size + 1), 0, none⟩ = some (.bool false) ∧ W.cell? ⟨(w.heap.size + 1), 1, none⟩ = some (.string ⟨#[]⟩) ∧ W.cell? ⟨(w.heap.size + 1), 2, none⟩ = some (.int .i16 0) ∧ (∀ o, W.frozen? ⟨(w.heap.size + 1), o, none⟩ = false) ∧ (w.heap.size + 1) < W.heap.size) ∧ Below w.heap.size w W)
    case first =>
      clear HLG HDG
      cases bw with
      | false =>
        go_wp2_with fail
        go_meet
        exact ⟨by rw [HBZ.out]; rfl, hsp3, hS5⟩
      | true =>
        cases en with
        | false =>
          go_wp2_with fail
          go_meet
          exact ⟨by rw [HBZ.out]; rfl, hsp3, hS5⟩
        | true =>
          go_wp2_with fail
          go_meet
          exact ⟨by rw [HBZ.out]; rfl, hsp3, hS5⟩
    case rest =>
    clear hm0 hm1 hm2' hm3 hm4 hm5 hm6 hm7 hm8 hsp3 hS5
    obtain ⟨rfl, hsp3, hS5⟩ := hcut
    obtain ⟨hm0, hm1, hm2', hm3, hm4, hm5, hm6, hm7, hm8⟩ := sp_cells hsp3
    go_upto_if 130 with (fail)
    go_cut [133] (fun _ W => Blk W sb (spC (Av : Int) (V : Int) ((if bw = true ∧ en = false then Bv - 1 else Bv : Nat) : Int) aw vw en 0) 176 ∧ (W.cell? ⟨w.heap.size, 0, none⟩ = some (.int .u8 (E : Int)) ∧ W.cell? ⟨w.heap.size, 1, none⟩ = some (.int .u8 (M : Int)) ∧ (∀ o, W.frozen? ⟨w.heap.size, o, none⟩ = false) ∧ w.heap.size < W.heap.size) ∧ (W.cell? ⟨(w.heap.size + 1), 0, none⟩ = some (.bool false) ∧ W.cell? ⟨(w.heap.size + 1), 1, none⟩ = some (.string ⟨#[]⟩) ∧ W.cell? ⟨(w.heap.size + 1), 2, none⟩ = some (.int .i16 0) ∧ (∀ o, W.frozen? ⟨(w.heap.size + 1), o, none⟩ = false) ∧ (w.heap.size + 1) < W.heap.size) ∧ Below w.heap.size w W)
    case first =>
      clear HLG HDG
      have kB : (Bv : Int) - 1 = ((Bv - 1 : Nat) : Int) := by omega
      obtain ⟨B1, hB1⟩ : ∃ B1, B1 = Bv - 1 := ⟨_, rfl⟩
      rw [← hB1] at kB
      have kB2 : IntKind.u64.wrap (B1 : Int) = (B1 : Int) := by rw [IntKind.wrap_u64]; omega
      have HB1 := hid_mk hB1
      clear hB1
      have hbz := HBZ.out
      clear HBZ
      cases bz with
      | false =>
        have HIF : Hid ((if bw = true ∧ en = false then Bv - 1 else Bv) = Bv) := by
          show (if bw = true ∧ en = false then Bv - 1 else Bv) = Bv
          rw [if_neg]
          rintro ⟨h1, h2⟩
          rw [h1, h2] at hbz
          exact absurd hbz (by decide)
        clear hbz
        go_wp2_with fail
        go_meet
        exact ⟨by rw [HIF.out]; exact hsp3, hS5⟩
      | true =>
        have HIF : Hid ((if bw = true ∧ en = false then Bv - 1 else Bv) = B1) := by
          show (if bw = true ∧ en = false then Bv - 1 else Bv) = B1
          rw [if_pos, HB1.out]
          cases bw <;> cases en <;> first | exact absurd hbz (by decide) | exact ⟨rfl, rfl⟩
        clear hbz
        go_wp2_with fail
        go_meet
        exact ⟨by rw [HIF.out]; exact hsp3.set 2 _, q23z_store hS5 hpp⟩
    case rest =>
    clear hm0 hm1 hm2' hm3 hm4 hm5 hm6 hm7 hm8 hsp3 hS5 kE1 kE2
    obtain ⟨hsp, hS⟩ := hcut
    have HDD := hid_mk (HDG.out _ _ hsp)
    clear hsp
    go_wp2_with fail
    refine Calls.mono HDD.out ?_
    rintro _ w7 ⟨J, c, rfl, hsh, hJ1, hJ2, hc1, hc2, hb⟩
    replace hS := q23z_low hS hb hsb
    have HSHT := hid_mk hsh
    have hc3 : c < 1000000000000000000 := hc2
    have HC2 := hid_mk hc2
    have kc : IntKind.i64.wrap (c : Int) = (c : Int) := by rw [IntKind.wrap_i64]; omega
    have HIT := hid_mk (itoa_nl c hc1 hc2)
    have HMK := hid_mk (make_nl neg c (q + (J : Int)) hc1 hc2 (by omega) (by omega))
    rw [decV_eq] at HMK
    obtain ⟨SD, HSD⟩ : ∃ SD, Hid (dvS c = SD) := ⟨_, rfl⟩
    obtain ⟨KX, HKX⟩ : ∃ KX, Hid (q + (J : Int) + (tz c : Int) = KX) := ⟨_, rfl⟩
    rw [HSD.out, HKX.out] at HMK
    have kq1 : IntKind.i16.wrap q = q := by rw [i16_wrap]; omega
    have kq2 : IntKind.i16.wrap (q + (J : Int)) = q + (J : Int) := by rw [i16_wrap]; omega
    clear hsh hb HDD HDG hc2
    generalize dstr (nl c) c = ST at *
    go_wp2_with fail
    refine Calls.mono (HIT.out _) ?_
    rintro _ w8 ⟨rfl, hb⟩
    replace hS := q23z_next hS hb
    clear hb HIT
    go_wp2_with fail
    refine Calls.mono (HLG.out _) ?_
    rintro _ w9 ⟨rfl, rfl⟩
    clear HLG
    go_wp2_with fail
    refine Calls.mono (HMK.out _) ?_
    rintro _ w10 ⟨rfl, hb⟩
    replace hS := q23z_next hS hb
    clear hb HMK
    have hR17 := bx3_made w10 (m := w10.heap.size) (.bool neg) (.string SD) (.int .i16 KX) 69 rfl
    have hR := (q23z_alloc hS (.cells #[.bool neg, .string SD, .int .i16 KX] 69)).2.1
    have HB := hid_mk (q23z_alloc hS (.cells #[.bool neg, .string SD, .int .i16 KX] 69)).2.2
    have n1 : w.heap.size + 1 ≠ w10.heap.size := by have := hS.2.1.2.2.2.2; omega
    clear hS hpp hsb kN1 kN2 kN3 kN4 kN5 kN6 kc kq1 kq2
    go_wp2_with fail
    exact bodyPost_ret (v := .agg #[.bool neg, .string SD, .int .i16 KX]) (by simp [results, Oajg.results110, go_sem, hR]) rfl ⟨J, c, by rw [decV_eq, HSD.out, HKX.out], HSHT.out, hJ1, hJ2, hc1, HC2.out, ((HB.out.setCell (p := ⟨w.heap.size + 1, 0, none⟩) (Nat.le_succ _) _).setCell (p := ⟨w.heap.size + 1, 1, none⟩) (Nat.le_succ _) _).setCell (p := ⟨w.heap.size + 1, 2, none⟩) (Nat.le_succ _) _⟩

end Go.Proofs.Ygcoaj
