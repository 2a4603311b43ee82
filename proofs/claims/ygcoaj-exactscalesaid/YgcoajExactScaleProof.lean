/-
  THE CLAIM: law.ExactScale.
-/
import Derived.Test.YgcoajRows
import Derived.Test.YgcoajFrame
import Derived.Test.YgcoajXs3
import Derived.Test.YgcoajXsLawB
import Derived.Lib.SmallJoins
import Derived.WalkKit
import Derived.ProofKit
import Derived.OpenShut
set_option linter.unusedVariables false
set_option linter.unusedSimpArgs false
namespace Go.Proofs.Ygcoaj
open Go.RowKit

theorem rj_next {w W W' A : World} {b E M m : Nat} {x0 x1 x2 : Value} {q : Nat} {y0 y1 y2 : Value} (h : (W.cell? ⟨b, 0, none⟩ = some (.int .u8 (E : Int)) ∧ W.cell? ⟨b, 1, none⟩ = some (.int .u8 (M : Int)) ∧ b < W.heap.size ∧ Below w.heap.size w W) ∧ (W.cell? ⟨m, 0, none⟩ = some x0 ∧ W.cell? ⟨m, 1, none⟩ = some x1 ∧ W.cell? ⟨m, 2, none⟩ = some x2 ∧ (∀ o, W.frozen? ⟨m, o, none⟩ = false) ∧ m < W.heap.size) ∧ (W.cell? ⟨q, 0, none⟩ = some y0 ∧ W.cell? ⟨q, 1, none⟩ = some y1 ∧ W.cell? ⟨q, 2, none⟩ = some y2 ∧ (∀ o, W.frozen? ⟨q, o, none⟩ = false) ∧ q < W.heap.size) ∧ Kp A W) (hb : Below W.heap.size W W') : (W'.cell? ⟨b, 0, none⟩ = some (.int .u8 (E : Int)) ∧ W'.cell? ⟨b, 1, none⟩ = some (.int .u8 (M : Int)) ∧ b < W'.heap.size ∧ Below w.heap.size w W') ∧ (W'.cell? ⟨m, 0, none⟩ = some x0 ∧ W'.cell? ⟨m, 1, none⟩ = some x1 ∧ W'.cell? ⟨m, 2, none⟩ = some x2 ∧ (∀ o, W'.frozen? ⟨m, o, none⟩ = false) ∧ m < W'.heap.size) ∧ (W'.cell? ⟨q, 0, none⟩ = some y0 ∧ W'.cell? ⟨q, 1, none⟩ = some y1 ∧ W'.cell? ⟨q, 2, none⟩ = some y2 ∧ (∀ o, W'.frozen? ⟨q, o, none⟩ = false) ∧ q < W'.heap.size) ∧ Kp A W' := ⟨sf_next h.1 hb, bx3_next h.2.1 hb, bx3_next h.2.2.1 hb, h.2.2.2.trans (Kp.of hb)⟩
theorem rj_drew {w W A : World} {b E M m : Nat} {x0 x1 x2 : Value} {q : Nat} {y0 y1 y2 : Value} (h : (W.cell? ⟨b, 0, none⟩ = some (.int .u8 (E : Int)) ∧ W.cell? ⟨b, 1, none⟩ = some (.int .u8 (M : Int)) ∧ b < W.heap.size ∧ Below w.heap.size w W) ∧ (W.cell? ⟨m, 0, none⟩ = some x0 ∧ W.cell? ⟨m, 1, none⟩ = some x1 ∧ W.cell? ⟨m, 2, none⟩ = some x2 ∧ (∀ o, W.frozen? ⟨m, o, none⟩ = false) ∧ m < W.heap.size) ∧ (W.cell? ⟨q, 0, none⟩ = some y0 ∧ W.cell? ⟨q, 1, none⟩ = some y1 ∧ W.cell? ⟨q, 2, none⟩ = some y2 ∧ (∀ o, W.frozen? ⟨q, o, none⟩ = false) ∧ q < W.heap.size) ∧ Kp A W) : (W.drew.cell? ⟨b, 0, none⟩ = some (.int .u8 (E : Int)) ∧ W.drew.cell? ⟨b, 1, none⟩ = some (.int .u8 (M : Int)) ∧ b < W.drew.heap.size ∧ Below w.heap.size w W.drew) ∧ (W.drew.cell? ⟨m, 0, none⟩ = some x0 ∧ W.drew.cell? ⟨m, 1, none⟩ = some x1 ∧ W.drew.cell? ⟨m, 2, none⟩ = some x2 ∧ (∀ o, W.drew.frozen? ⟨m, o, none⟩ = false) ∧ m < W.drew.heap.size) ∧ (W.drew.cell? ⟨q, 0, none⟩ = some y0 ∧ W.drew.cell? ⟨q, 1, none⟩ = some y1 ∧ W.drew.cell? ⟨q, 2, none⟩ = some y2 ∧ (∀ o, W.drew.frozen? ⟨q, o, none⟩ = false) ∧ q < W.drew.heap.size) ∧ Kp A W.drew := ⟨sf_drew h.1, bx3_drew h.2.1, bx3_drew h.2.2.1, h.2.2.2.drew⟩

namespace exactScaleP

set_option maxRecDepth 100000 in
set_option maxHeartbeats 8000000 in
theorem walk_fin (E M mo a : Nat) (n : Int) (ha : a < 18446744073709551616) (w : World) (h : FOk E M) (hc : upC E M a = 1 ∨ upC E M a = 2) :
    Calls Oajg.prog 4 #[.agg #[.int .u8 (E : Int), .int .u8 (M : Int)], .int .u8 (mo : Int), .int .u64 (a : Int), .int .i64 n] w fun e w' => e = .returned (.bool true) ∧ Below w.heap.size w w' := by
  have hF := sf_box w E M
  have HO : Hid (∀ w, Calls Oajg.prog 17 #[.agg #[.int .u8 (E : Int), .int .u8 (M : Int)]] w fun e w' => e = .returned (.bool true) ∧ Below w.heap.size w w') := ok_yes h
  have H18 : Hid (∀ w, Calls Oajg.prog 18 #[.agg #[.int .u8 (E : Int), .int .u8 (M : Int)], .int .u8 (mo : Int), .int .u64 (a : Int), .int .i64 n] w fun e w' => e = .returned (.tuple #[.int .u64 (scN E M mo a n : Nat), .int .u8 (scF E M mo a n)]) ∧ Below w.heap.size w w') := scaleFlagsX_ok E M h mo a ha n
  have H19 : Hid (∀ w, Calls Oajg.prog 19 #[.agg #[.int .u8 (E : Int), .int .u8 (M : Int)], .int .u64 (a : Int)] w fun e w' => e = .returned (.tuple #[.int .i64 (lbN E M a), .bool (lbOk E M a), .int .u8 (lbF E M a)]) ∧ Below w.heap.size w w') := logFlagsX_ok E M h a ha
  have H20 : Hid (∀ w, Calls Oajg.prog 20 #[.agg #[.int .u8 (E : Int), .int .u8 (M : Int)], .int .u64 (a : Int)] w fun e w' => e = .returned (.tuple #[.int .i64 (lbN E M a), .bool (lbOk E M a)]) ∧ Below w.heap.size w w') := logX_ok E M h a ha
  have H21 : Hid (∀ w, Calls Oajg.prog 21 #[.agg #[.int .u8 (E : Int), .int .u8 (M : Int)], .int .u8 (mo : Int), .int .u64 (a : Int), .int .i64 n] w fun e w' => e = .returned (.int .u64 (scN E M mo a n : Nat)) ∧ Below w.heap.size w w') := scaleX_ok E M h mo a ha n
  have H22 : Hid (∀ w, Calls Oajg.prog 22 #[.agg #[.int .u8 (E : Int), .int .u8 (M : Int)], .int .u64 (a : Int)] w fun e w' => e = .returned (.int .i8 (upC E M a)) ∧ Below w.heap.size w w') := classOf_ok E M h a ha
  have hl : lbOk E M a = true := by unfold lbOk; rcases hc with hc | hc <;> rw [hc] <;> rfl
  have hll : lbN E M a = upE E M a + (M : Int) ∧ lbF E M a = 0 := ⟨by unfold lbN; rw [hl]; rfl, by unfold lbF; rw [hl]; rfl⟩
  obtain ⟨hv1, hv2⟩ := v_exp h hl
  have hvl := v_low h hl
  have hvu := v_up h hl
  have hsame := scale_same (mo := mo) (neg := fNeg E M a) (n := n) h hl
  have hne4 : upC E M a ≠ 4 := by rcases hc with hc | hc <;> rw [hc] <;> decide
  have hne3 : upC E M a ≠ 3 := by rcases hc with hc | hc <;> rw [hc] <;> decide
  have hsN : scN E M mo a n = rfN E M mo (fNeg E M a) (vNum E M a * 2 ^ (sc6 n).toNat) (vDen E M a * 2 ^ (-sc6 n).toNat) := by unfold scN; rw [if_neg hne4, if_neg hne3]; exact hsame.1
  have hsF : scF E M mo a n = (rfF E M mo (fNeg E M a) (vNum E M a * 2 ^ (sc6 n).toNat) (vDen E M a * 2 ^ (-sc6 n).toNat) : Nat) := by unfold scF; rw [if_neg hne4, if_neg hne3, hsame.2]
  have hVNf := vN_fin hne4 hne3
  obtain ⟨KK, hKK⟩ : ∃ KK, KK = upE E M a + (M : Int) := ⟨_, rfl⟩
  obtain ⟨KK1, hKK1⟩ : ∃ KK1, KK1 = KK + 1 := ⟨_, rfl⟩
  have kK1 : IntKind.i64.wrap (KK + 1) = KK1 := by rw [IntKind.wrap_i64]; omega
  rw [hll.1, hl, hll.2, ← hKK] at H19
  rw [hll.1, hl, ← hKK] at H20
  rw [← hKK] at hv1 hv2
  have HVA : Hid (∀ W, Calls Oajg.prog 26 #[.agg #[.int .u8 (E : Int), .int .u8 (M : Int)], .int .u64 (a : Int)] W fun e w' => ∃ a1 k1 c1 a2 k2 c2, e = .returned (.tuple #[.agg #[.bool (fNeg E M a), .slice a1 k1 c1, .slice a2 k2 c2], .int .i8 (upC E M a)]) ∧ NatIs 2050 w' (.slice a1 k1 c1) (vNum E M a) ∧ NatIs 2050 w' (.slice a2 k2 c2) (vDen E M a) ∧ Below W.heap.size W w') := fun W => by
    have := value_ok E M h a ha W
    rw [hVNf] at this
    exact this
  obtain ⟨K, hK⟩ : ∃ K, K = sc6 n := ⟨_, rfl⟩
  have hK3 : (n < -6000 ∧ K = -6000) ∨ (6000 < n ∧ K = 6000) ∨ (-6000 ≤ n ∧ n ≤ 6000 ∧ K = n) := by rw [hK]; unfold sc6; omega
  have hKb : -6000 ≤ K ∧ K ≤ 6000 := by rw [hK]; unfold sc6; omega
  obtain ⟨NUM6, hNUM6⟩ : ∃ V, V = vNum E M a * 2 ^ K.toNat := ⟨_, rfl⟩
  obtain ⟨DEN6, hDEN6⟩ : ∃ V, V = vDen E M a * 2 ^ (-K).toNat := ⟨_, rfl⟩
  rw [← hK, ← hNUM6, ← hDEN6] at hsN hsF
  have hn6 : NUM6 ≠ 0 := by rw [hNUM6]; exact Nat.mul_ne_zero (v_ne h hl) (Nat.ne_of_gt (pp _))
  have hd6 : DEN6 ≠ 0 := by rw [hDEN6]; exact Nat.mul_ne_zero (vDen_ne E M a) (Nat.ne_of_gt (pp _))
  have HRO : Hid (∀ W b1 l1 e1 b2 l2 e2, NatIs 4100 W (.slice b1 l1 e1) NUM6 → NatIs 4100 W (.slice b2 l2 e2) DEN6 → Calls Oajg.prog 29 #[.agg #[.int .u8 (E : Int), .int .u8 (M : Int)], .int .u8 (mo : Int), .agg #[.bool (fNeg E M a), .slice b1 l1 e1, .slice b2 l2 e2]] W fun e w' => e = .returned (.int .u64 (scN E M mo a n : Nat)) ∧ Below W.heap.size W w') := fun W b1 l1 e1 b2 l2 e2 hx hy => by
    have := roundL_ok E M h mo (fNeg E M a) 4100 NUM6 DEN6 b1 b2 l1 e1 l2 e2 W hx hy (by decide) hd6
    rw [← hsN] at this
    exact this
  have hRN64 : scN E M mo a n < 18446744073709551616 := by rw [hsN]; exact rfN_64 h
  have HWF : Hid (∀ W b1 l1 e1 b2 l2 e2, NatIs 4100 W (.slice b1 l1 e1) NUM6 → NatIs 4100 W (.slice b2 l2 e2) DEN6 → Calls Oajg.prog 30 #[.agg #[.int .u8 (E : Int), .int .u8 (M : Int)], .int .u8 (mo : Int), .agg #[.bool (fNeg E M a), .slice b1 l1 e1, .slice b2 l2 e2], .int .u64 (scN E M mo a n : Nat)] W fun e w' => e = .returned (.int .u8 (scF E M mo a n)) ∧ Below W.heap.size W w') := fun W b1 l1 e1 b2 l2 e2 hx hy => by
    have := wantFlags_ok E M h mo (fNeg E M a) 4100 NUM6 DEN6 b1 b2 l1 e1 l2 e2 W hx hy (by decide) hd6 hn6 (scN E M mo a n) hRN64
    have hw := want_ok (mo := mo) (neg := fNeg E M a) h hn6 hd6
    rw [← hsN] at hw
    rw [← hw, ← hsF] at this
    exact this
  have HP6 : Hid (∀ W, Calls Oajg.prog 28 #[.int .i64 K] W fun e w' => ∃ a1 k1 c1 a2 k2 c2, e = .returned (.agg #[.bool false, .slice a1 k1 c1, .slice a2 k2 c2]) ∧ NatIs 2050 w' (.slice a1 k1 c1) (2 ^ K.toNat) ∧ NatIs 2050 w' (.slice a2 k2 c2) (2 ^ (-K).toNat) ∧ Below W.heap.size W w') := fun W => pow2L_ok K (by omega) (by omega) W
  have HPk : Hid (∀ W, Calls Oajg.prog 28 #[.int .i64 KK] W fun e w' => ∃ a1 k1 c1 a2 k2 c2, e = .returned (.agg #[.bool false, .slice a1 k1 c1, .slice a2 k2 c2]) ∧ NatIs 2050 w' (.slice a1 k1 c1) (2 ^ KK.toNat) ∧ NatIs 2050 w' (.slice a2 k2 c2) (2 ^ (-KK).toNat) ∧ Below W.heap.size W w') := fun W => pow2L_ok KK (by omega) (by omega) W
  have HPk1 : Hid (∀ W, Calls Oajg.prog 28 #[.int .i64 KK1] W fun e w' => ∃ a1 k1 c1 a2 k2 c2, e = .returned (.agg #[.bool false, .slice a1 k1 c1, .slice a2 k2 c2]) ∧ NatIs 2050 w' (.slice a1 k1 c1) (2 ^ KK1.toNat) ∧ NatIs 2050 w' (.slice a2 k2 c2) (2 ^ (-KK1).toNat) ∧ Below W.heap.size W w') := fun W => pow2L_ok KK1 (by omega) (by omega) W
  have HMF : Hid (∀ W s1 t1 u1 s2 t2 u2 p1 p2 p3 q1 q2 q3, NatIs 2050 W (.slice s1 t1 u1) (vNum E M a) → NatIs 2050 W (.slice s2 t2 u2) (vDen E M a) → NatIs 2050 W (.slice p1 p2 p3) (2 ^ K.toNat) → NatIs 2050 W (.slice q1 q2 q3) (2 ^ (-K).toNat) → Calls Oajg.prog 27 #[.agg #[.bool (fNeg E M a), .slice s1 t1 u1, .slice s2 t2 u2], .agg #[.bool false, .slice p1 p2 p3, .slice q1 q2 q3]] W fun e w' => ∃ b1 l1 e1 b2 l2 e2, e = .returned (.agg #[.bool (fNeg E M a), .slice b1 l1 e1, .slice b2 l2 e2]) ∧ NatIs 4100 w' (.slice b1 l1 e1) NUM6 ∧ NatIs 4100 w' (.slice b2 l2 e2) DEN6 ∧ Below W.heap.size W w') := fun W s1 t1 u1 s2 t2 u2 p1 p2 p3 q1 q2 q3 hx hy hp hq => by
    have := mulFrac_ok (fNeg E M a) false s1 s2 p1 q1 t1 u1 t2 u2 p2 p3 q2 q3 2050 (vNum E M a) (vDen E M a) (2 ^ K.toNat) (2 ^ (-K).toNat) W hx hy hp hq (by decide)
    rw [show (fNeg E M a != false) = fNeg E M a from by cases fNeg E M a <;> rfl, ← hNUM6, ← hDEN6] at this
    exact this
  obtain ⟨Za, hZa⟩ : ∃ Z, Z = cmpZ (2 ^ KK.toNat * vDen E M a) (vNum E M a * 2 ^ (-KK).toNat) := ⟨_, rfl⟩
  obtain ⟨Zb, hZb⟩ : ∃ Z, Z = cmpZ (vNum E M a * 2 ^ (-KK1).toNat) (2 ^ KK1.toNat * vDen E M a) := ⟨_, rfl⟩
  have hza : Za ≤ 0 := by
    have h5 := hvl (-KK).toNat KK.toNat (by omega)
    rw [hZa, Nat.mul_comm (2 ^ KK.toNat)]
    unfold cmpZ
    split
    · decide
    · rw [if_pos (by omega)]; decide
  have hzb : Zb < 0 := by
    have h5 := hvu (-KK1).toNat KK1.toNat (by omega)
    rw [hZb, Nat.mul_comm (2 ^ KK1.toNat), cmpZ_lt h5]; decide
  have HCa : Hid (∀ W s1 t1 u1 s2 t2 u2 p1 p2 p3 q1 q2 q3, NatIs 2050 W (.slice s1 t1 u1) (vNum E M a) → NatIs 2050 W (.slice s2 t2 u2) (vDen E M a) → NatIs 2050 W (.slice p1 p2 p3) (2 ^ KK.toNat) → NatIs 2050 W (.slice q1 q2 q3) (2 ^ (-KK).toNat) → Calls Oajg.prog 31 #[.agg #[.bool false, .slice p1 p2 p3, .slice q1 q2 q3], .agg #[.bool (fNeg E M a), .slice s1 t1 u1, .slice s2 t2 u2]] W fun e w' => e = .returned (.int .i8 Za) ∧ Below W.heap.size W w') := fun W s1 t1 u1 s2 t2 u2 p1 p2 p3 q1 q2 q3 hx hy hp hq => by
    have := cmpSize_ok false (fNeg E M a) p1 q1 s1 s2 p2 p3 q2 q3 t1 u1 t2 u2 2050 _ _ (vNum E M a) (vDen E M a) W hp hq hx hy (by decide)
    rw [← hZa] at this
    exact this
  have HCb : Hid (∀ W s1 t1 u1 s2 t2 u2 p1 p2 p3 q1 q2 q3, NatIs 2050 W (.slice s1 t1 u1) (vNum E M a) → NatIs 2050 W (.slice s2 t2 u2) (vDen E M a) → NatIs 2050 W (.slice p1 p2 p3) (2 ^ KK1.toNat) → NatIs 2050 W (.slice q1 q2 q3) (2 ^ (-KK1).toNat) → Calls Oajg.prog 31 #[.agg #[.bool (fNeg E M a), .slice s1 t1 u1, .slice s2 t2 u2], .agg #[.bool false, .slice p1 p2 p3, .slice q1 q2 q3]] W fun e w' => e = .returned (.int .i8 Zb) ∧ Below W.heap.size W w') := fun W s1 t1 u1 s2 t2 u2 p1 p2 p3 q1 q2 q3 hx hy hp hq => by
    have := cmpSize_ok (fNeg E M a) false s1 s2 p1 q1 t1 u1 t2 u2 p2 p3 q2 q3 2050 (vNum E M a) (vDen E M a) _ _ W hx hy hp hq (by decide)
    rw [← hZb] at this
    exact this
  clear hsN hsF hsame hvl hvu hZa hZb hNUM6 hDEN6 hn6 hd6 hKK hKK1 hRN64 hK hKb hne4 hne3 hVNf hll hl h
  generalize scN E M mo a n = RN at *
  generalize scF E M mo a n = RF at *
  generalize vNum E M a = VNUM at *
  generalize vDen E M a = VDEN at *
  generalize fNeg E M a = NG at *
  rcases hc with hc | hc
  all_goals
    rw [hc] at H22 HVA
    clear hc
    go_enter Oajg.func4, Oajg.ntmps4
    go_wp2_with fail
    refine Calls.mono (HO.out _) ?_
    rintro _ w1 ⟨rfl, hb⟩
    replace hF := sf_next hF hb
    clear hb
    go_wp2_with fail
    refine Calls.mono (H18.out _) ?_
    rintro _ w1 ⟨rfl, hb⟩
    replace hF := sf_next hF hb
    clear hb
    go_wp2_with fail
    refine Calls.mono (H19.out _) ?_
    rintro _ w1 ⟨rfl, hb⟩
    replace hF := sf_next hF hb
    clear hb
    go_wp2_with fail
    refine Calls.mono (H20.out _) ?_
    rintro _ w1 ⟨rfl, hb⟩
    replace hF := sf_next hF hb
    clear hb
    go_wp2_with fail
    refine Calls.mono (H21.out _) ?_
    rintro _ w1 ⟨rfl, hb⟩
    replace hF := sf_next hF hb
    clear hb
    go_wp2_with fail
    refine Calls.mono (H22.out _) ?_
    rintro _ w1 ⟨rfl, hb⟩
    replace hF := sf_next hF hb
    clear hb
    go_wp2_with fail
    refine Calls.mono (HVA.out _) ?_
    rintro _ w7 ⟨s1, t1, u1, s2, t2, u2, rfl, hV1, hV2, hb⟩
    replace hF := sf_next hF hb
    have hE0 := And.intro (sf_alloc hF (.cells #[.bool NG, .slice s1 t1 u1, .slice s2 t2 u2] 48)) (bx3_made w7 (m := w7.heap.size) (.bool NG) (.slice s1 t1 u1) (.slice s2 t2 u2) 48 rfl)
    have HV1 : Hid (NatIs 2050 (w7.alloc (.cells #[.bool NG, .slice s1 t1 u1, .slice s2 t2 u2] 48)) (.slice s1 t1 u1) VNUM) := hV1.kept ((Below.refl _ _).alloc (Nat.le_refl _) _)
    have HV2 : Hid (NatIs 2050 (w7.alloc (.cells #[.bool NG, .slice s1 t1 u1, .slice s2 t2 u2] 48)) (.slice s2 t2 u2) VDEN) := hV2.kept ((Below.refl _ _).alloc (Nat.le_refl _) _)
    have hnw : Hid (w.heap.size ≠ w7.heap.size) := by have := hF.2.2.1; show _ ≠ _; omega
    clear hb hF hV1 hV2 HVA HO H18 H19 H20 H21 H22
    go_wp2_with fail
    generalize (w7.alloc (.cells #[.bool NG, .slice s1 t1 u1, .slice s2 t2 u2] 48)) = A at *
    generalize w7.heap.size = n17 at *
    have hn0 := hE0.2.2.2.2.2
    have hm0 := hE0.1.2.2.1
    go_cut [19] (fun s19 W => ∃ p b1 l1 e1 b2 l2 e2, s19 = .pointer (some ⟨p, 0, none⟩) ∧ (W.cell? ⟨p, 0, none⟩ = some (.bool NG) ∧ W.cell? ⟨p, 1, none⟩ = some (.slice b1 l1 e1) ∧ W.cell? ⟨p, 2, none⟩ = some (.slice b2 l2 e2) ∧ (∀ o, W.frozen? ⟨p, o, none⟩ = false) ∧ p < W.heap.size) ∧ ((W.cell? ⟨w.heap.size, 0, none⟩ = some (.int .u8 (E : Int)) ∧ W.cell? ⟨w.heap.size, 1, none⟩ = some (.int .u8 (M : Int)) ∧ w.heap.size < W.heap.size ∧ Below w.heap.size w W) ∧ (W.cell? ⟨n17, 0, none⟩ = some (.bool NG) ∧ W.cell? ⟨n17, 1, none⟩ = some (.slice s1 t1 u1) ∧ W.cell? ⟨n17, 2, none⟩ = some (.slice s2 t2 u2) ∧ (∀ o, W.frozen? ⟨n17, o, none⟩ = false) ∧ n17 < W.heap.size)) ∧ (∃ Wb, NatIs 4100 Wb (.slice b1 l1 e1) NUM6 ∧ NatIs 4100 Wb (.slice b2 l2 e2) DEN6 ∧ NatIs 2050 Wb (.slice s1 t1 u1) VNUM ∧ NatIs 2050 Wb (.slice s2 t2 u2) VDEN ∧ Kp Wb W))
    case first =>
      have hK4 : (n < -6000 ∧ K = -6000) ∨ (6000 < n ∧ ¬ n < -6000 ∧ K = 6000) ∨ (¬ K < -6000 ∧ ¬ 6000 < K ∧ K = n) := by omega
      clear hK3
      rcases hK4 with ⟨hn1, rfl⟩ | ⟨hn1, hn2, rfl⟩ | ⟨hn1, hn2, rfl⟩
      all_goals go_region_held3 (fun W => (W.cell? ⟨w.heap.size, 0, none⟩ = some (.int .u8 (E : Int)) ∧ W.cell? ⟨w.heap.size, 1, none⟩ = some (.int .u8 (M : Int)) ∧ w.heap.size < W.heap.size ∧ Below w.heap.size w W) ∧ (W.cell? ⟨n17, 0, none⟩ = some (.bool NG) ∧ W.cell? ⟨n17, 1, none⟩ = some (.slice s1 t1 u1) ∧ W.cell? ⟨n17, 2, none⟩ = some (.slice s2 t2 u2) ∧ (∀ o, W.frozen? ⟨n17, o, none⟩ = false) ∧ n17 < W.heap.size)) ((repeat' (first | with_reducible assumption | with_reducible refine re_drew ?_ | with_reducible refine re_alloc ?_ _ | with_reducible refine re_store ?_ ?_ | (simp only [World.size_alloc, World.size_drew, World.size_setCell]; omega) | omega))) ((first | (go_at_call 28; refine Calls.mono (HP6.out _) ?_; rintro _ wp ⟨p1, p2, p3, q1, q2, q3, rfl, hN1, hN2, hb⟩; have HVp1 : Hid (NatIs 2050 wp (.slice s1 t1 u1) VNUM) := (HV1.out.kp (by first | with_reducible exact Kp.refl _ | with_reducible exact (Kp.refl _).alloc _ | with_reducible exact (Kp.refl _).drew | with_reducible exact ((Kp.refl _).alloc _).drew | with_reducible exact (Kp.refl _).drew.alloc _)).kp (Kp.of hb); have HVp2 : Hid (NatIs 2050 wp (.slice s2 t2 u2) VDEN) := (HV2.out.kp (by first | with_reducible exact Kp.refl _ | with_reducible exact (Kp.refl _).alloc _ | with_reducible exact (Kp.refl _).drew | with_reducible exact ((Kp.refl _).alloc _).drew | with_reducible exact (Kp.refl _).drew.alloc _)).kp (Kp.of hb); have hEwp := re_next (by with_reducible assumption) hb; have hnwp := hEwp.2.2.2.2.2; have hmwp := hEwp.1.2.2.1; have hzn := hb.size; obtain ⟨hc, hf, hz⟩ := bfacts2 hb; (try simp only [World.size_alloc, World.size_drew] at hc hf hz hzn); (try have hqwpA : A.heap.size < wp.heap.size := by omega); (try have hrwpA : n17 < A.heap.size := by omega); (try have hswpA : w.heap.size < A.heap.size := by omega); have HO1 : Hid (NatIs 2050 wp (.slice p1 p2 p3) _) := hN1; have HO2 : Hid (NatIs 2050 wp (.slice q1 q2 q3) _) := hN2; clear hb hN1 hN2) | (go_at_call 27; (with_reducible refine Calls.mono (HMF.out _ _ _ _ _ _ _ _ _ _ _ _ _ ?ha ?hb2 ?hc2 ?hd2) ?_); (case ha => exact HVp1.out.kp (by first | with_reducible exact Kp.refl _ | with_reducible exact (Kp.refl _).alloc _ | with_reducible exact (Kp.refl _).drew | with_reducible exact ((Kp.refl _).alloc _).drew | with_reducible exact (Kp.refl _).drew.alloc _)); (case hb2 => exact HVp2.out.kp (by first | with_reducible exact Kp.refl _ | with_reducible exact (Kp.refl _).alloc _ | with_reducible exact (Kp.refl _).drew | with_reducible exact ((Kp.refl _).alloc _).drew | with_reducible exact (Kp.refl _).drew.alloc _)); (case hc2 => exact HO1.out.kp (by first | with_reducible exact Kp.refl _ | with_reducible exact (Kp.refl _).alloc _ | with_reducible exact (Kp.refl _).drew | with_reducible exact ((Kp.refl _).alloc _).drew | with_reducible exact (Kp.refl _).drew.alloc _)); (case hd2 => exact HO2.out.kp (by first | with_reducible exact Kp.refl _ | with_reducible exact (Kp.refl _).alloc _ | with_reducible exact (Kp.refl _).drew | with_reducible exact ((Kp.refl _).alloc _).drew | with_reducible exact (Kp.refl _).drew.alloc _)); rintro _ wm ⟨b1, l1, e1, b2, l2, e2, rfl, hN1, hN2, hb⟩; have HVm1 : Hid (NatIs 2050 wm (.slice s1 t1 u1) VNUM) := (HVp1.out.kp (by first | with_reducible exact Kp.refl _ | with_reducible exact (Kp.refl _).alloc _ | with_reducible exact (Kp.refl _).drew | with_reducible exact ((Kp.refl _).alloc _).drew | with_reducible exact (Kp.refl _).drew.alloc _)).kp (Kp.of hb); have HVm2 : Hid (NatIs 2050 wm (.slice s2 t2 u2) VDEN) := (HVp2.out.kp (by first | with_reducible exact Kp.refl _ | with_reducible exact (Kp.refl _).alloc _ | with_reducible exact (Kp.refl _).drew | with_reducible exact ((Kp.refl _).alloc _).drew | with_reducible exact (Kp.refl _).drew.alloc _)).kp (Kp.of hb); have hEwm := re_next (by with_reducible assumption) hb; have hnwm := hEwm.2.2.2.2.2; have hmwm := hEwm.1.2.2.1; have hzn := hb.size; obtain ⟨hc, hf, hz⟩ := bfacts2 hb; (try simp only [World.size_alloc, World.size_drew] at hc hf hz hzn); (try have hqwmA : A.heap.size < wm.heap.size := by omega); (try have hrwmA : n17 < A.heap.size := by omega); (try have hswmA : w.heap.size < A.heap.size := by omega); (try have hqwmwp : wp.heap.size < wm.heap.size := by omega); (try have hrwmwp : n17 < wp.heap.size := by omega); (try have hswmwp : w.heap.size < wp.heap.size := by omega); have HM1 : Hid (NatIs 4100 wm (.slice b1 l1 e1) NUM6) := hN1; have HM2 : Hid (NatIs 4100 wm (.slice b2 l2 e2) DEN6) := hN2; clear hb hN1 hN2)))
      all_goals go_wp2_with fail
      all_goals go_meet
      all_goals refine ⟨_, _, _, _, _, _, _, rfl, ⟨?_, ?_, ?_, ?_, ?_⟩, ?_, ⟨wm, HM1.out, HM2.out, HVm1.out, HVm2.out, ?_⟩⟩
      all_goals try (first
        | with_reducible assumption
        | omega
        | (simp only [World.size_alloc, World.size_drew, World.size_setCell]; omega)
        | (simp [*, go_sem]; done)
        | (intro o; simp [*, go_sem]; done))
      all_goals repeat' (first
        | with_reducible exact Kp.refl _
          | with_reducible refine Kp.alloc ?_ _
          | with_reducible refine Kp.drew ?_
          | with_reducible refine Kp.setCell (p := ⟨_, 0, none⟩) (u := .bool false) ?_ (by simp [*, go_sem]; done) (not32_bool _)
          | with_reducible refine Kp.setCell (p := ⟨_, 1, none⟩) (u := .slice none 0 0) ?_ (by simp [*, go_sem]; done) (not32_slice _ _ _)
          | with_reducible refine Kp.setCell (p := ⟨_, 2, none⟩) (u := .slice none 0 0) ?_ (by simp [*, go_sem]; done) (not32_slice _ _ _))
    case rest =>
      clear hK3
      obtain ⟨p, b1, l1, e1, b2, l2, e2, rfl, hP, hE, Wb, hB1, hB2, hV1, hV2, hk⟩ := hcut
      have HRO2 : Hid (∀ W, ((W.cell? ⟨w.heap.size, 0, none⟩ = some (.int .u8 (E : Int)) ∧ W.cell? ⟨w.heap.size, 1, none⟩ = some (.int .u8 (M : Int)) ∧ w.heap.size < W.heap.size ∧ Below w.heap.size w W) ∧ (W.cell? ⟨n17, 0, none⟩ = some (.bool NG) ∧ W.cell? ⟨n17, 1, none⟩ = some (.slice s1 t1 u1) ∧ W.cell? ⟨n17, 2, none⟩ = some (.slice s2 t2 u2) ∧ (∀ o, W.frozen? ⟨n17, o, none⟩ = false) ∧ n17 < W.heap.size) ∧ (W.cell? ⟨p, 0, none⟩ = some (.bool NG) ∧ W.cell? ⟨p, 1, none⟩ = some (.slice b1 l1 e1) ∧ W.cell? ⟨p, 2, none⟩ = some (.slice b2 l2 e2) ∧ (∀ o, W.frozen? ⟨p, o, none⟩ = false) ∧ p < W.heap.size) ∧ Kp Wb W) → Calls Oajg.prog 29 #[.agg #[.int .u8 (E : Int), .int .u8 (M : Int)], .int .u8 (mo : Int), .agg #[.bool NG, .slice b1 l1 e1, .slice b2 l2 e2]] W fun e w' => e = .returned (.int .u64 (RN : Nat)) ∧ Below W.heap.size W w') := fun W hW => HRO.out W _ _ _ _ _ _ (hB1.kp hW.2.2.2) (hB2.kp hW.2.2.2)
      have HWF2 : Hid (∀ W, ((W.cell? ⟨w.heap.size, 0, none⟩ = some (.int .u8 (E : Int)) ∧ W.cell? ⟨w.heap.size, 1, none⟩ = some (.int .u8 (M : Int)) ∧ w.heap.size < W.heap.size ∧ Below w.heap.size w W) ∧ (W.cell? ⟨n17, 0, none⟩ = some (.bool NG) ∧ W.cell? ⟨n17, 1, none⟩ = some (.slice s1 t1 u1) ∧ W.cell? ⟨n17, 2, none⟩ = some (.slice s2 t2 u2) ∧ (∀ o, W.frozen? ⟨n17, o, none⟩ = false) ∧ n17 < W.heap.size) ∧ (W.cell? ⟨p, 0, none⟩ = some (.bool NG) ∧ W.cell? ⟨p, 1, none⟩ = some (.slice b1 l1 e1) ∧ W.cell? ⟨p, 2, none⟩ = some (.slice b2 l2 e2) ∧ (∀ o, W.frozen? ⟨p, o, none⟩ = false) ∧ p < W.heap.size) ∧ Kp Wb W) → Calls Oajg.prog 30 #[.agg #[.int .u8 (E : Int), .int .u8 (M : Int)], .int .u8 (mo : Int), .agg #[.bool NG, .slice b1 l1 e1, .slice b2 l2 e2], .int .u64 (RN : Nat)] W fun e w' => e = .returned (.int .u8 RF) ∧ Below W.heap.size W w') := fun W hW => HWF.out W _ _ _ _ _ _ (hB1.kp hW.2.2.2) (hB2.kp hW.2.2.2)
      have HCa2 : Hid (∀ W, ((W.cell? ⟨w.heap.size, 0, none⟩ = some (.int .u8 (E : Int)) ∧ W.cell? ⟨w.heap.size, 1, none⟩ = some (.int .u8 (M : Int)) ∧ w.heap.size < W.heap.size ∧ Below w.heap.size w W) ∧ (W.cell? ⟨n17, 0, none⟩ = some (.bool NG) ∧ W.cell? ⟨n17, 1, none⟩ = some (.slice s1 t1 u1) ∧ W.cell? ⟨n17, 2, none⟩ = some (.slice s2 t2 u2) ∧ (∀ o, W.frozen? ⟨n17, o, none⟩ = false) ∧ n17 < W.heap.size) ∧ (W.cell? ⟨p, 0, none⟩ = some (.bool NG) ∧ W.cell? ⟨p, 1, none⟩ = some (.slice b1 l1 e1) ∧ W.cell? ⟨p, 2, none⟩ = some (.slice b2 l2 e2) ∧ (∀ o, W.frozen? ⟨p, o, none⟩ = false) ∧ p < W.heap.size) ∧ Kp Wb W) → ∀ p1 p2 p3 q1 q2 q3, NatIs 2050 W (.slice p1 p2 p3) (2 ^ KK.toNat) → NatIs 2050 W (.slice q1 q2 q3) (2 ^ (-KK).toNat) → Calls Oajg.prog 31 #[.agg #[.bool false, .slice p1 p2 p3, .slice q1 q2 q3], .agg #[.bool NG, .slice s1 t1 u1, .slice s2 t2 u2]] W fun e w' => e = .returned (.int .i8 Za) ∧ Below W.heap.size W w') := fun W hW p1 p2 p3 q1 q2 q3 hp hq => HCa.out W _ _ _ _ _ _ _ _ _ _ _ _ (hV1.kp hW.2.2.2) (hV2.kp hW.2.2.2) hp hq
      have HCb2 : Hid (∀ W, ((W.cell? ⟨w.heap.size, 0, none⟩ = some (.int .u8 (E : Int)) ∧ W.cell? ⟨w.heap.size, 1, none⟩ = some (.int .u8 (M : Int)) ∧ w.heap.size < W.heap.size ∧ Below w.heap.size w W) ∧ (W.cell? ⟨n17, 0, none⟩ = some (.bool NG) ∧ W.cell? ⟨n17, 1, none⟩ = some (.slice s1 t1 u1) ∧ W.cell? ⟨n17, 2, none⟩ = some (.slice s2 t2 u2) ∧ (∀ o, W.frozen? ⟨n17, o, none⟩ = false) ∧ n17 < W.heap.size) ∧ (W.cell? ⟨p, 0, none⟩ = some (.bool NG) ∧ W.cell? ⟨p, 1, none⟩ = some (.slice b1 l1 e1) ∧ W.cell? ⟨p, 2, none⟩ = some (.slice b2 l2 e2) ∧ (∀ o, W.frozen? ⟨p, o, none⟩ = false) ∧ p < W.heap.size) ∧ Kp Wb W) → ∀ p1 p2 p3 q1 q2 q3, NatIs 2050 W (.slice p1 p2 p3) (2 ^ KK1.toNat) → NatIs 2050 W (.slice q1 q2 q3) (2 ^ (-KK1).toNat) → Calls Oajg.prog 31 #[.agg #[.bool NG, .slice s1 t1 u1, .slice s2 t2 u2], .agg #[.bool false, .slice p1 p2 p3, .slice q1 q2 q3]] W fun e w' => e = .returned (.int .i8 Zb) ∧ Below W.heap.size W w') := fun W hW p1 p2 p3 q1 q2 q3 hp hq => HCb.out W _ _ _ _ _ _ _ _ _ _ _ _ (hV1.kp hW.2.2.2) (hV2.kp hW.2.2.2) hp hq
      have hJ := And.intro hE.1 (And.intro hE.2 (And.intro hP hk))
      clear hB1 hB2 hV1 hV2 hk hP hE HRO HWF HCa HCb HP6 HMF HV1 HV2 hE0 hn0 hm0
      go_wp2_with fail
      go_region_held3 (fun W => (W.cell? ⟨w.heap.size, 0, none⟩ = some (.int .u8 (E : Int)) ∧ W.cell? ⟨w.heap.size, 1, none⟩ = some (.int .u8 (M : Int)) ∧ w.heap.size < W.heap.size ∧ Below w.heap.size w W) ∧ (W.cell? ⟨n17, 0, none⟩ = some (.bool NG) ∧ W.cell? ⟨n17, 1, none⟩ = some (.slice s1 t1 u1) ∧ W.cell? ⟨n17, 2, none⟩ = some (.slice s2 t2 u2) ∧ (∀ o, W.frozen? ⟨n17, o, none⟩ = false) ∧ n17 < W.heap.size) ∧ (W.cell? ⟨p, 0, none⟩ = some (.bool NG) ∧ W.cell? ⟨p, 1, none⟩ = some (.slice b1 l1 e1) ∧ W.cell? ⟨p, 2, none⟩ = some (.slice b2 l2 e2) ∧ (∀ o, W.frozen? ⟨p, o, none⟩ = false) ∧ p < W.heap.size) ∧ Kp Wb W)
        ((repeat' (first | with_reducible assumption | with_reducible refine rj_drew ?_)))
        ((first | (go_at_call 29; (with_reducible refine Calls.mono (HRO2.out _ ?hh) ?_); (case hh => with_reducible assumption); rintro _ wa ⟨rfl, hb⟩; have hJa := rj_next (by with_reducible assumption) hb; clear hb) | (go_at_call 30; (with_reducible refine Calls.mono (HWF2.out _ ?hh) ?_); (case hh => with_reducible assumption); rintro _ wb ⟨rfl, hb⟩; have hJb := rj_next (by with_reducible assumption) hb; clear hb) | (go_at_call 28; first | ((with_reducible refine Calls.mono (HPk.out _) ?_); rintro _ wc ⟨p1, p2, p3, q1, q2, q3, rfl, hN1, hN2, hb⟩; have hJc := rj_next (by with_reducible assumption) hb; have HP1 : Hid (NatIs 2050 wc (.slice p1 p2 p3) _) := hN1; have HP2 : Hid (NatIs 2050 wc (.slice q1 q2 q3) _) := hN2; clear hb hN1 hN2) | ((with_reducible refine Calls.mono (HPk1.out _) ?_); rintro _ wd ⟨p4, p5, p6, q4, q5, q6, rfl, hN1, hN2, hb⟩; have hJd := rj_next (by with_reducible assumption) hb; have HP3 : Hid (NatIs 2050 wd (.slice p4 p5 p6) _) := hN1; have HP4 : Hid (NatIs 2050 wd (.slice q4 q5 q6) _) := hN2; clear hb hN1 hN2)) | (go_at_call 31; first | ((with_reducible refine Calls.mono (HCa2.out _ ?hh _ _ _ _ _ _ ?ha ?hb2) ?_); (case hh => with_reducible assumption); (case ha => with_reducible exact HP1.out); (case hb2 => with_reducible exact HP2.out); rintro _ we ⟨rfl, hb⟩; have hJe := rj_next (by with_reducible assumption) hb; clear hb) | ((with_reducible refine Calls.mono (HCb2.out _ ?hh _ _ _ _ _ _ ?ha ?hb2) ?_); (case hh => with_reducible assumption); (case ha => with_reducible exact HP3.out); (case hb2 => with_reducible exact HP4.out); rintro _ wf ⟨rfl, hb⟩; have hJf := rj_next (by with_reducible assumption) hb; clear hb))))
      go_wp2_with fail
      go_ret
      exact ⟨by first | rfl | simp, hJf.1.2.2.2⟩

set_option maxRecDepth 100000 in
set_option maxHeartbeats 8000000 in
theorem walk (E M mo a : Nat) (n : Int) (ha : a < 18446744073709551616) (w : World) :
    Calls Oajg.prog 4 #[.agg #[.int .u8 (E : Int), .int .u8 (M : Int)], .int .u8 (mo : Int), .int .u64 (a : Int), .int .i64 n] w fun e w' => e = .returned (.bool true) ∧ Below w.heap.size w w' := by
  have hF := sf_box w E M
  cases hO : okB E M with
  | false =>
    have HO : Hid (∀ w, Calls Oajg.prog 17 #[.agg #[.int .u8 (E : Int), .int .u8 (M : Int)]] w fun e w' => e = .returned (.bool false) ∧ Below w.heap.size w w') := ok_not hO
    clear hO
    go_enter Oajg.func4, Oajg.ntmps4
    go_wp2_with fail
    refine Calls.mono (HO.out _) ?_
    rintro _ w1 ⟨rfl, hb⟩
    replace hF := sf_next hF hb
    clear hb
    go_wp2_with fail
    go_ret
    exact ⟨by first | rfl | simp, hF.2.2.2⟩
  | true =>
    have h := okB_spec hO
    clear hO
    have HO : Hid (∀ w, Calls Oajg.prog 17 #[.agg #[.int .u8 (E : Int), .int .u8 (M : Int)]] w fun e w' => e = .returned (.bool true) ∧ Below w.heap.size w w') := ok_yes h
    have H18 : Hid (∀ w, Calls Oajg.prog 18 #[.agg #[.int .u8 (E : Int), .int .u8 (M : Int)], .int .u8 (mo : Int), .int .u64 (a : Int), .int .i64 n] w fun e w' => e = .returned (.tuple #[.int .u64 (scN E M mo a n : Nat), .int .u8 (scF E M mo a n)]) ∧ Below w.heap.size w w') := scaleFlagsX_ok E M h mo a ha n
    have H19 : Hid (∀ w, Calls Oajg.prog 19 #[.agg #[.int .u8 (E : Int), .int .u8 (M : Int)], .int .u64 (a : Int)] w fun e w' => e = .returned (.tuple #[.int .i64 (lbN E M a), .bool (lbOk E M a), .int .u8 (lbF E M a)]) ∧ Below w.heap.size w w') := logFlagsX_ok E M h a ha
    have H20 : Hid (∀ w, Calls Oajg.prog 20 #[.agg #[.int .u8 (E : Int), .int .u8 (M : Int)], .int .u64 (a : Int)] w fun e w' => e = .returned (.tuple #[.int .i64 (lbN E M a), .bool (lbOk E M a)]) ∧ Below w.heap.size w w') := logX_ok E M h a ha
    have H21 : Hid (∀ w, Calls Oajg.prog 21 #[.agg #[.int .u8 (E : Int), .int .u8 (M : Int)], .int .u8 (mo : Int), .int .u64 (a : Int), .int .i64 n] w fun e w' => e = .returned (.int .u64 (scN E M mo a n : Nat)) ∧ Below w.heap.size w w') := scaleX_ok E M h mo a ha n
    have H22 : Hid (∀ w, Calls Oajg.prog 22 #[.agg #[.int .u8 (E : Int), .int .u8 (M : Int)], .int .u64 (a : Int)] w fun e w' => e = .returned (.int .i8 (upC E M a)) ∧ Below w.heap.size w w') := classOf_ok E M h a ha
    have hnot : upC E M a = 4 ∨ upC E M a = 3 ∨ upC E M a = 0 → lbOk E M a = false ∧ lbN E M a = 0 ∧ lbF E M a = 1 := fun hc => by
      have h1 : lbOk E M a = false := by unfold lbOk; rcases hc with hc | hc | hc <;> rw [hc] <;> rfl
      exact ⟨h1, by unfold lbN; rw [h1]; rfl, by unfold lbF; rw [h1]; rfl⟩
    rcases upC_range E M a with hc | hc | hc | hc | hc
    · obtain ⟨q1, q2, q3⟩ := hnot (Or.inr (Or.inr hc))
      have H25 : Hid (∀ w, Calls Oajg.prog 25 #[.agg #[.int .u8 (E : Int), .int .u8 (M : Int)], .int .u64 (a : Int)] w fun e w' => e = .returned (.int .u64 ((a % 2 ^ (E + M + 1) : Nat) : Int)) ∧ Below w.heap.size w w') := cutTo_ok E M h a ha
      have hz := sc_zero (mo := mo) (n := n) h hc
      rw [hz.1, hz.2] at H18
      rw [hz.1] at H21
      rw [q1, q2, q3] at H19
      rw [q1, q2] at H20
      rw [hc] at H22
      clear hc q1 q2 q3 hz hnot h
      generalize (a % 2 ^ (E + M + 1)) = XX at *
      go_enter Oajg.func4, Oajg.ntmps4
      go_wp2_with fail
      refine Calls.mono (HO.out _) ?_
      rintro _ w1 ⟨rfl, hb⟩
      replace hF := sf_next hF hb
      clear hb
      go_wp2_with fail
      refine Calls.mono (H18.out _) ?_
      rintro _ w1 ⟨rfl, hb⟩
      replace hF := sf_next hF hb
      clear hb
      go_wp2_with fail
      refine Calls.mono (H19.out _) ?_
      rintro _ w1 ⟨rfl, hb⟩
      replace hF := sf_next hF hb
      clear hb
      go_wp2_with fail
      refine Calls.mono (H20.out _) ?_
      rintro _ w1 ⟨rfl, hb⟩
      replace hF := sf_next hF hb
      clear hb
      go_wp2_with fail
      refine Calls.mono (H21.out _) ?_
      rintro _ w1 ⟨rfl, hb⟩
      replace hF := sf_next hF hb
      clear hb
      go_wp2_with fail
      refine Calls.mono (H22.out _) ?_
      rintro _ w1 ⟨rfl, hb⟩
      replace hF := sf_next hF hb
      clear hb
      go_wp2_with fail
      refine Calls.mono (H25.out _) ?_
      rintro _ w1 ⟨rfl, hb⟩
      replace hF := sf_next hF hb
      clear hb
      go_wp2_with fail
      go_ret
      exact ⟨by first | rfl | simp, hF.2.2.2⟩
    · replace hc : upC E M a = 1 ∨ upC E M a = 2 := Or.inl hc
      clear hnot
      exact walk_fin E M mo a n ha w h hc
    · replace hc : upC E M a = 1 ∨ upC E M a = 2 := Or.inr hc
      clear hnot
      exact walk_fin E M mo a n ha w h hc
    · obtain ⟨q1, q2, q3⟩ := hnot (Or.inr (Or.inl hc))
      have H25 : Hid (∀ w, Calls Oajg.prog 25 #[.agg #[.int .u8 (E : Int), .int .u8 (M : Int)], .int .u64 (a : Int)] w fun e w' => e = .returned (.int .u64 ((a % 2 ^ (E + M + 1) : Nat) : Int)) ∧ Below w.heap.size w w') := cutTo_ok E M h a ha
      have hz1 : scN E M mo a n = a % 2 ^ (E + M + 1) := by unfold scN; rw [if_neg (by omega), if_pos hc, bits_inf h hc]
      have hz2 : scF E M mo a n = 0 := by unfold scF; rw [if_neg (by omega), if_pos hc]
      rw [hz1, hz2] at H18
      rw [hz1] at H21
      rw [q1, q2, q3] at H19
      rw [q1, q2] at H20
      rw [hc] at H22
      clear hc q1 q2 q3 hz1 hz2 hnot h
      generalize (a % 2 ^ (E + M + 1)) = XX at *
      go_enter Oajg.func4, Oajg.ntmps4
      go_wp2_with fail
      refine Calls.mono (HO.out _) ?_
      rintro _ w1 ⟨rfl, hb⟩
      replace hF := sf_next hF hb
      clear hb
      go_wp2_with fail
      refine Calls.mono (H18.out _) ?_
      rintro _ w1 ⟨rfl, hb⟩
      replace hF := sf_next hF hb
      clear hb
      go_wp2_with fail
      refine Calls.mono (H19.out _) ?_
      rintro _ w1 ⟨rfl, hb⟩
      replace hF := sf_next hF hb
      clear hb
      go_wp2_with fail
      refine Calls.mono (H20.out _) ?_
      rintro _ w1 ⟨rfl, hb⟩
      replace hF := sf_next hF hb
      clear hb
      go_wp2_with fail
      refine Calls.mono (H21.out _) ?_
      rintro _ w1 ⟨rfl, hb⟩
      replace hF := sf_next hF hb
      clear hb
      go_wp2_with fail
      refine Calls.mono (H22.out _) ?_
      rintro _ w1 ⟨rfl, hb⟩
      replace hF := sf_next hF hb
      clear hb
      go_wp2_with fail
      refine Calls.mono (H25.out _) ?_
      rintro _ w1 ⟨rfl, hb⟩
      replace hF := sf_next hF hb
      clear hb
      go_wp2_with fail
      go_ret
      exact ⟨by first | rfl | simp, hF.2.2.2⟩
    · obtain ⟨q1, q2, q3⟩ := hnot (Or.inl hc)
      have H23 : Hid (∀ w, Calls Oajg.prog 23 #[.agg #[.int .u8 (E : Int), .int .u8 (M : Int)]] w fun e w' => e = .returned (.int .u64 (nanN E M : Nat)) ∧ Below w.heap.size w w') := nanL_ok E M h
      have H24 : Hid (∀ w, Calls Oajg.prog 24 #[.agg #[.int .u8 (E : Int), .int .u8 (M : Int)], .int .u64 (a : Int), .int .u64 (a : Int)] w fun e w' => e = .returned (.int .u8 (hdI E M a)) ∧ Below w.heap.size w w') := nanFlagsL_ok E M h a ha
      have hz1 : scN E M mo a n = nanN E M := by unfold scN; rw [if_pos hc]
      have hz2 : scF E M mo a n = hdI E M a := by unfold scF; rw [if_pos hc]
      rw [hz1, hz2] at H18
      rw [hz1] at H21
      rw [q1, q2, q3] at H19
      rw [q1, q2] at H20
      rw [hc] at H22
      clear hc q1 q2 q3 hz1 hz2 hnot h
      generalize nanN E M = NA at *
      generalize hdI E M a = HD at *
      go_enter Oajg.func4, Oajg.ntmps4
      go_wp2_with fail
      refine Calls.mono (HO.out _) ?_
      rintro _ w1 ⟨rfl, hb⟩
      replace hF := sf_next hF hb
      clear hb
      go_wp2_with fail
      refine Calls.mono (H18.out _) ?_
      rintro _ w1 ⟨rfl, hb⟩
      replace hF := sf_next hF hb
      clear hb
      go_wp2_with fail
      refine Calls.mono (H19.out _) ?_
      rintro _ w1 ⟨rfl, hb⟩
      replace hF := sf_next hF hb
      clear hb
      go_wp2_with fail
      refine Calls.mono (H20.out _) ?_
      rintro _ w1 ⟨rfl, hb⟩
      replace hF := sf_next hF hb
      clear hb
      go_wp2_with fail
      refine Calls.mono (H21.out _) ?_
      rintro _ w1 ⟨rfl, hb⟩
      replace hF := sf_next hF hb
      clear hb
      go_wp2_with fail
      refine Calls.mono (H22.out _) ?_
      rintro _ w1 ⟨rfl, hb⟩
      replace hF := sf_next hF hb
      clear hb
      go_wp2_with fail
      refine Calls.mono (H23.out _) ?_
      rintro _ w1 ⟨rfl, hb⟩
      replace hF := sf_next hF hb
      clear hb
      go_wp2_with fail
      refine Calls.mono (H24.out _) ?_
      rintro _ w1 ⟨rfl, hb⟩
      replace hF := sf_next hF hb
      clear hb
      go_wp2_with fail
      go_ret
      exact ⟨by first | rfl | simp, hF.2.2.2⟩

theorem own : ownKnob Oajg.prog.godebug = none := by kernel_rfl
theorem cells23 : Oajg.prog.cellsOf 23 = 2 := by kernel_rfl

/-! ### THE ROW's STEP -/
open Go.ChangeShapes Go.WideShapes Go.ChangeAt Go.Joins
set_option maxRecDepth 100000 in
theorem lifted (os : Os) (started : os.Started) (H : Type) (enc : TypeId × Value → H) :
    ReturnsInHanded {} Oajg.checked os 4 .any (Rows.exactScaleSpec.pre6 enc Oajg.prog Oajg.f4 Rows.exactScaleRow.domain false) (Rows.exactScaleSpec.post enc Oajg.prog Oajg.f4 false true false false) := by
  refine returnsInHanded_of_change (C := Oajg.checked) own started (by kernel_rfl) Oajg.func4
    (ChangeSpec.witness6 (enc := enc) (C := Oajg.checked) false ⟨#[], #[.agg #[.int .u8 0, .int .u8 0], .int .u8 0, .int .u64 0, .int .i64 0], []⟩ 8 (by kernel_rfl) (by kernel_rfl) (by kernel_rfl) (by kernel_rfl)) ?_
  intro W base args ds gs before hval0 hW _ _
  have hval : ∀ (j : Nat) t v, Oajg.f4.params[j]? = some t → args[j]? = some v → Value.okWide Oajg.prog W .any base t v := hval0
  have hW' := hW
  obtain ⟨p, q, hA0, hV, rfl, hfz, hnd⟩ := hW
  have hA : DataW.TrodAll enc Oajg.prog W 0 (fun _ => true) true Oajg.f4.params.toList args.toList ds p := hA0
  rw [Oajg.params4] at hA hval
  obtain ⟨v0, vs0, d0, ds0, p0, q0, hargs, rfl, rfl, h0, r0⟩ := trodAll_cons hA
  obtain ⟨v1, vs1, d1, ds1, p1, q1, rfl, rfl, rfl, h1, r1⟩ := trodAll_cons r0
  obtain ⟨v2, vs2, d2, ds2, p2, q2, rfl, rfl, rfl, h2, r2⟩ := trodAll_cons r1
  obtain ⟨v3, vs3, d3, ds3, p3, q3, rfl, rfl, rfl, h3, r3⟩ := trodAll_cons r2
  obtain ⟨rfl, rfl, rfl⟩ := trodAll_nil r3
  obtain rfl : args = #[v0, v1, v2, v3] := by cases args; simp_all
  obtain ⟨rfl, rfl⟩ := trodVars_none hV
  obtain ⟨ca0, cb0, ya0, yb0, m0, rfl, rfl, rfl, hya0, hyb0⟩ := open_agg2 Oajg.underlying23 (by kernel_rfl) cells23 (hval 0 23 v0 rfl rfl) h0
  obtain ⟨a0, ea0, rfl, wa0⟩ := DataW.trod_int Oajg.underlying5 hya0
  obtain ⟨b0, eb0, rfl, wb0⟩ := DataW.trod_int Oajg.underlying5 hyb0
  simp at ea0 eb0
  subst ea0 eb0
  obtain ⟨x1, rfl, rfl, rfl, wx1⟩ := open_int Oajg.underlying29 (hval 1 29 v1 rfl rfl) h1
  obtain ⟨x2, rfl, rfl, rfl, wx2⟩ := open_int Oajg.underlying24 (hval 2 24 v2 rfl rfl) h2
  obtain ⟨x3, rfl, rfl, rfl, wx3⟩ := open_int Oajg.underlying2 (hval 3 2 v3 rfl rfl) h3
  clear hA0 hval0
  have hba0 := bounds_u8 wa0
  have hbb0 := bounds_u8 wb0
  have hbx1 := bounds_u8 wx1
  have hbx2 := bounds_u64 wx2
  have sr0 : ∀ (W' : World) (sp : Nat → Bool), DataW.Trod enc Oajg.prog W' 0 sp true 23 (.agg #[.int .u8 a0, .int .u8 b0]) (.agg [.lit (.int .u8 a0), .lit (.int .u8 b0)]) [] := fun W' sp =>
    shut_agg2 (y0 := (.lit (.int .u8 a0), [])) (y1 := (.lit (.int .u8 b0), [])) Oajg.underlying23 (by kernel_rfl) cells23 ⟨1, by simp [DataW.trod, Oajg.underlying5, wa0]⟩ ⟨1, by simp [DataW.trod, Oajg.underlying5, wb0]⟩
  simp only [List.append_nil] at hW'
  have hwalk : Calls Oajg.prog 4 #[.agg #[.int .u8 a0, .int .u8 b0], .int .u8 x1, .int .u64 x2, .int .i64 x3] W fun e w' => e = .returned (.bool true) ∧ Below W.heap.size W w' := by
    obtain ⟨na0, rfl⟩ := Int.eq_ofNat_of_zero_le hba0.1
    obtain ⟨nb0, rfl⟩ := Int.eq_ofNat_of_zero_le hbb0.1
    obtain ⟨nx1, rfl⟩ := Int.eq_ofNat_of_zero_le hbx1.1
    obtain ⟨nx2, rfl⟩ := Int.eq_ofNat_of_zero_le hbx2.1
    exact walk na0 nb0 nx1 nx2 x3 (by omega) W
  refine hwalk.mono fun e W' ⟨he, hg⟩ => ?_
  subst he
  exact ⟨_, rfl, post_of_below (pa := []) (pv := []) hW' (fun _ _ _ => (trodAll_cons_mk (shut_bool Oajg.underlying4 _) trodAll_mk0)) (fun sp _ => (trodAll_cons_mk (sr0 _ sp) (trodAll_cons_mk (shut_int Oajg.underlying29 wx1) (trodAll_cons_mk (shut_int Oajg.underlying24 wx2) (trodAll_cons_mk (shut_int Oajg.underlying2 wx3) trodAll_mk0))))) (fun _ _ => rfl) rfl hg⟩

theorem over : Rows.exactScaleRow.holds Oajg.pinned (OpenSpec.ofChange Rows.exactScaleSpec) :=
  OpenClaim.holds_of_wide 4 Oajg.f4 rfl rfl rfl rfl rfl rfl rfl ⟨rfl, rfl, rfl, rfl, rfl⟩ rfl rfl rfl rfl rfl (by kernel_rfl) Oajg.func4 (by kernel_rfl)
    (of_decide_eq_true (by kernel_rfl)) (by unfold Func.isWrapper; first | (rw [if_pos (by decide +kernel)]; kernel_rfl) | (rw [if_neg (by decide +kernel)]; exact ⟨rfl, rfl⟩))
    (fun os started H enc _ => lifted os started H enc)

theorem proved : Rows.ExactScaleSaid :=
  over
#print axioms proved

end exactScaleP
end Go.Proofs.Ygcoaj
