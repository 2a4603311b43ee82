/-
  WALK: law.wantFlags.
-/
import Derived.Test.YgcoajXs2
set_option linter.unusedVariables false
set_option linter.unusedSimpArgs false
namespace Go.Proofs.Ygcoaj
open Go.RowKit

theorem cmpZ_eq0 {a b : Nat} : (cmpZ a b == 0) = decide (a = b) := by
  unfold cmpZ
  split
  · rw [decide_eq_false (by omega)]; rfl
  · split
    · rename_i h; rw [decide_eq_true h]; rfl
    · rename_i h; rw [decide_eq_false h]; rfl
theorem NatIs.len_ne {B : Nat} {w : World} {ad : Option Addr} {k c n : Nat} (h : NatIs B w (.slice ad k c) n) (hn : n ≠ 0) : k ≠ 0 := by
  obtain ⟨l, b, cap, _, _, _, _, h5, e, _⟩ := h.of_pos hn
  cases e
  have := List.length_pos_iff.2 h5
  omega
theorem rh_made {w W A : World} {b E M m : Nat} {x0 x1 x2 : Value} (t : Nat) (h : (W.cell? ⟨b, 0, none⟩ = some (.int .u8 (E : Int)) ∧ W.cell? ⟨b, 1, none⟩ = some (.int .u8 (M : Int)) ∧ b < W.heap.size ∧ Below w.heap.size w W) ∧ (W.cell? ⟨m, 0, none⟩ = some x0 ∧ W.cell? ⟨m, 1, none⟩ = some x1 ∧ W.cell? ⟨m, 2, none⟩ = some x2 ∧ (∀ o, W.frozen? ⟨m, o, none⟩ = false) ∧ m < W.heap.size) ∧ Kp A W) (y0 y1 y2 : Value) : ((W.alloc (.cells #[y0, y1, y2] t)).cell? ⟨b, 0, none⟩ = some (.int .u8 (E : Int)) ∧ (W.alloc (.cells #[y0, y1, y2] t)).cell? ⟨b, 1, none⟩ = some (.int .u8 (M : Int)) ∧ b < (W.alloc (.cells #[y0, y1, y2] t)).heap.size ∧ Below w.heap.size w (W.alloc (.cells #[y0, y1, y2] t))) ∧ ((W.alloc (.cells #[y0, y1, y2] t)).cell? ⟨m, 0, none⟩ = some x0 ∧ (W.alloc (.cells #[y0, y1, y2] t)).cell? ⟨m, 1, none⟩ = some x1 ∧ (W.alloc (.cells #[y0, y1, y2] t)).cell? ⟨m, 2, none⟩ = some x2 ∧ (∀ o, (W.alloc (.cells #[y0, y1, y2] t)).frozen? ⟨m, o, none⟩ = false) ∧ m < (W.alloc (.cells #[y0, y1, y2] t)).heap.size) ∧ Kp (W.alloc (.cells #[y0, y1, y2] t)) (W.alloc (.cells #[y0, y1, y2] t)) ∧ ((W.alloc (.cells #[y0, y1, y2] t)).cell? ⟨W.heap.size, 0, none⟩ = some y0 ∧ (W.alloc (.cells #[y0, y1, y2] t)).cell? ⟨W.heap.size, 1, none⟩ = some y1 ∧ (W.alloc (.cells #[y0, y1, y2] t)).cell? ⟨W.heap.size, 2, none⟩ = some y2 ∧ (∀ o, (W.alloc (.cells #[y0, y1, y2] t)).frozen? ⟨W.heap.size, o, none⟩ = false) ∧ W.heap.size < (W.alloc (.cells #[y0, y1, y2] t)).heap.size) :=
  ⟨sf_alloc h.1 _, bx3_alloc h.2.1 _, Kp.refl _, bx3_made W (m := W.heap.size) y0 y1 y2 t rfl⟩

set_option maxRecDepth 100000 in
set_option maxHeartbeats 4000000 in
theorem wantFlags_ok (E M : Nat) (h : FOk E M) (mo : Nat) (neg : Bool) (B n d : Nat) (a1 a2 : Option Addr) (k1 c1 k2 c2 : Nat) (w : World) (h1 : NatIs B w (.slice a1 k1 c1) n) (h2 : NatIs B w (.slice a2 k2 c2) d) (hB : B ≤ 100000) (hd : d ≠ 0) (hn : n ≠ 0) (x : Nat) (hx : x < 18446744073709551616) :
    Calls Oajg.prog 30 #[.agg #[.int .u8 (E : Int), .int .u8 (M : Int)], .int .u8 (mo : Int), .agg #[.bool neg, .slice a1 k1 c1, .slice a2 k2 c2], .int .u64 (x : Int)] w fun e w' => e = .returned (.int .u8 (wfN E M mo neg n d x : Nat)) ∧ Below w.heap.size w w' := by
  have hF : (((w.alloc (.cells #[.int .u8 (E : Int), .int .u8 (M : Int)] 23)).alloc (.cells #[.bool neg, .slice a1 k1 c1, .slice a2 k2 c2] 48)).cell? ⟨w.heap.size, 0, none⟩ = some (.int .u8 (E : Int)) ∧ ((w.alloc (.cells #[.int .u8 (E : Int), .int .u8 (M : Int)] 23)).alloc (.cells #[.bool neg, .slice a1 k1 c1, .slice a2 k2 c2] 48)).cell? ⟨w.heap.size, 1, none⟩ = some (.int .u8 (M : Int)) ∧ w.heap.size < ((w.alloc (.cells #[.int .u8 (E : Int), .int .u8 (M : Int)] 23)).alloc (.cells #[.bool neg, .slice a1 k1 c1, .slice a2 k2 c2] 48)).heap.size ∧ Below w.heap.size w ((w.alloc (.cells #[.int .u8 (E : Int), .int .u8 (M : Int)] 23)).alloc (.cells #[.bool neg, .slice a1 k1 c1, .slice a2 k2 c2] 48))) ∧ (((w.alloc (.cells #[.int .u8 (E : Int), .int .u8 (M : Int)] 23)).alloc (.cells #[.bool neg, .slice a1 k1 c1, .slice a2 k2 c2] 48)).cell? ⟨(w.heap.size + 1), 0, none⟩ = some (.bool neg) ∧ ((w.alloc (.cells #[.int .u8 (E : Int), .int .u8 (M : Int)] 23)).alloc (.cells #[.bool neg, .slice a1 k1 c1, .slice a2 k2 c2] 48)).cell? ⟨(w.heap.size + 1), 1, none⟩ = some (.slice a1 k1 c1) ∧ ((w.alloc (.cells #[.int .u8 (E : Int), .int .u8 (M : Int)] 23)).alloc (.cells #[.bool neg, .slice a1 k1 c1, .slice a2 k2 c2] 48)).cell? ⟨(w.heap.size + 1), 2, none⟩ = some (.slice a2 k2 c2) ∧ (∀ o, ((w.alloc (.cells #[.int .u8 (E : Int), .int .u8 (M : Int)] 23)).alloc (.cells #[.bool neg, .slice a1 k1 c1, .slice a2 k2 c2] 48)).frozen? ⟨(w.heap.size + 1), o, none⟩ = false) ∧ (w.heap.size + 1) < ((w.alloc (.cells #[.int .u8 (E : Int), .int .u8 (M : Int)] 23)).alloc (.cells #[.bool neg, .slice a1 k1 c1, .slice a2 k2 c2] 48)).heap.size) ∧ Kp w ((w.alloc (.cells #[.int .u8 (E : Int), .int .u8 (M : Int)] 23)).alloc (.cells #[.bool neg, .slice a1 k1 c1, .slice a2 k2 c2] 48)) :=
    ⟨sf_alloc (sf_box w E M) _, bx3_made (w.alloc (.cells #[.int .u8 (E : Int), .int .u8 (M : Int)] 23)) (m := w.heap.size + 1) _ _ _ 48 (by simp), ((Kp.refl w).alloc _).alloc _⟩
  have HBI : Hid (∀ w, Calls Oajg.prog 80 #[.agg #[.int .u8 (E : Int), .int .u8 (M : Int)]] w fun e w' => e = .returned (.int .i64 (biasN E : Nat)) ∧ Below w.heap.size w w') := biasOf_ok E M h
  have hbi := biasN_le h.e11
  have hbi1 := biasN_pos h.e2
  obtain ⟨VNUM, hVNUM⟩ : ∃ V, V = vNum E M x := ⟨_, rfl⟩
  obtain ⟨VDEN, hVDEN⟩ : ∃ V, V = vDen E M x := ⟨_, rfl⟩
  obtain ⟨VN, hVN⟩ : ∃ V, V = vN E M x := ⟨_, rfl⟩
  obtain ⟨VC, hVC⟩ : ∃ V, V = upC E M x := ⟨_, rfl⟩
  have HVA : Hid (∀ W, Calls Oajg.prog 26 #[.agg #[.int .u8 (E : Int), .int .u8 (M : Int)], .int .u64 (x : Int)] W fun e w' => ∃ a1 k1 c1 a2 k2 c2, e = .returned (.tuple #[.agg #[.bool VN, .slice a1 k1 c1, .slice a2 k2 c2], .int .i8 VC]) ∧ NatIs 2050 w' (.slice a1 k1 c1) VNUM ∧ NatIs 2050 w' (.slice a2 k2 c2) VDEN ∧ Below W.heap.size W w') := fun W => by
    have := value_ok E M h x hx W
    rw [← hVNUM, ← hVDEN, ← hVN, ← hVC] at this
    exact this
  have HFI : Hid (∀ w, Calls Oajg.prog 79 #[.agg #[.int .u8 (E : Int), .int .u8 (M : Int)], .int .u64 (x : Int)] w fun e w' => e = .returned (.bool (finB E M x)) ∧ Below w.heap.size w w') := isFinite_ok E M h x hx
  have hk0 : ((k1 : Int) == 0) = false := by have := h1.len_ne hn; simp; omega
  have HRES : Hid (wfN E M mo neg n d x = if !finB E M x || gePow n d ((biasN E : Int) + 1) then 20 else if VNUM * d = n * VDEN then 0 else if itB E M mo neg n d then 24 else 16) := by show _ = _; unfold wfN; rw [if_neg hn, hVNUM, hVDEN]
  obtain ⟨Z0, hZ0⟩ : ∃ Z0, Z0 = cmpZ (n * 2 ^ (-((biasN E : Int) + 1)).toNat) (2 ^ ((biasN E : Int) + 1).toNat * d) := ⟨_, rfl⟩
  have z0 : decide (0 ≤ Z0) = gePow n d ((biasN E : Int) + 1) := by rw [hZ0]; exact cmpZ_gp
  have HPW : Hid (∀ W, Calls Oajg.prog 28 #[.int .i64 ((biasN E : Int) + 1)] W fun e w' => ∃ a1 k1 c1 a2 k2 c2, e = .returned (.agg #[.bool false, .slice a1 k1 c1, .slice a2 k2 c2]) ∧ NatIs 2050 w' (.slice a1 k1 c1) (2 ^ ((biasN E : Int) + 1).toNat) ∧ NatIs 2050 w' (.slice a2 k2 c2) (2 ^ (-((biasN E : Int) + 1)).toNat) ∧ Below W.heap.size W w') := fun W => pow2L_ok _ (by omega) (by omega) W
  have HCS : Hid (∀ W, Below w.heap.size w W → ∀ p1 p2 p3 q1 q2 q3, NatIs 2050 W (.slice p1 p2 p3) (2 ^ ((biasN E : Int) + 1).toNat) → NatIs 2050 W (.slice q1 q2 q3) (2 ^ (-((biasN E : Int) + 1)).toNat) → Calls Oajg.prog 31 #[.agg #[.bool neg, .slice a1 k1 c1, .slice a2 k2 c2], .agg #[.bool false, .slice p1 p2 p3, .slice q1 q2 q3]] W fun e w' => e = .returned (.int .i8 Z0) ∧ Below W.heap.size W w') := fun W hW p1 p2 p3 q1 q2 q3 hp hq => by
    have := cmpSize_ok neg false a1 a2 p1 q1 k1 c1 k2 c2 p2 p3 q2 q3 (B + 2050) n d _ _ W ((h1.kept hW).mono (by omega)) ((h2.kept hW).mono (by omega)) (hp.mono (by omega)) (hq.mono (by omega)) (by omega)
    rw [← hZ0] at this
    exact this
  obtain ⟨Z1, hZ1⟩ : ∃ Z1, Z1 = cmpZ (VNUM * d) (n * VDEN) := ⟨_, rfl⟩
  have z1 : (Z1 == 0) = decide (VNUM * d = n * VDEN) := by rw [hZ1]; exact cmpZ_eq0
  have HCV : Hid (∀ W, Below w.heap.size w W → ∀ s1 t1 u1 s2 t2 u2, NatIs 2050 W (.slice s1 t1 u1) VNUM → NatIs 2050 W (.slice s2 t2 u2) VDEN → Calls Oajg.prog 31 #[.agg #[.bool VN, .slice s1 t1 u1, .slice s2 t2 u2], .agg #[.bool neg, .slice a1 k1 c1, .slice a2 k2 c2]] W fun e w' => e = .returned (.int .i8 Z1) ∧ Below W.heap.size W w') := fun W hW s1 t1 u1 s2 t2 u2 hp hq => by
    have := cmpSize_ok VN neg s1 s2 a1 a2 t1 u1 t2 u2 k1 c1 k2 c2 (B + 2050) VNUM VDEN n d W (hp.mono (by omega)) (hq.mono (by omega)) ((h1.kept hW).mono (by omega)) ((h2.kept hW).mono (by omega)) (by omega)
    rw [← hZ1] at this
    exact this
  have HIT : Hid (∀ W, Below w.heap.size w W → Calls Oajg.prog 81 #[.agg #[.int .u8 (E : Int), .int .u8 (M : Int)], .int .u8 (mo : Int), .agg #[.bool neg, .slice a1 k1 c1, .slice a2 k2 c2]] W fun e w' => e = .returned (.bool (itB E M mo neg n d)) ∧ Below W.heap.size W w') := fun W hW => isTiny_ok E M h mo neg B n d a1 a2 k1 c1 k2 c2 W (h1.kept hW) (h2.kept hW) hB hd hn
  clear h h1 h2 hVNUM hVDEN hVN hVC hZ0 hZ1 hn hd
  generalize wfN E M mo neg n d x = RES at *
  generalize itB E M mo neg n d = IT at *
  generalize gePow n d ((biasN E : Int) + 1) = GP at *
  generalize finB E M x = FB at *
  obtain ⟨EQ, hEQ⟩ : ∃ EQ, EQ = decide (VNUM * d = n * VDEN) := ⟨_, rfl⟩
  have HRES2 : Hid (RES = if !FB || GP then 20 else if EQ then 0 else if IT then 24 else 16) := by
    show _ = _
    rw [HRES.out, hEQ]
    congr 1
    by_cases hc : VNUM * d = n * VDEN <;> simp [hc]
  rw [← hEQ] at z1
  clear HRES hEQ
  obtain ⟨K, hK⟩ : ∃ K : Int, K = (biasN E : Int) + 1 := ⟨_, rfl⟩
  have kK : IntKind.i64.wrap ((biasN E : Int) + 1) = K := by rw [IntKind.wrap_i64]; omega
  rw [← hK] at HPW HCS
  clear hK
  generalize biasN E = Bi at *
  cases FB with
  | false =>
    have HR : Hid (RES = 20) := HRES2.out
    clear HRES2 z0 z1
    go_enter Oajg.func30, Oajg.ntmps30
    go_wp2_with fail
    refine Calls.mono (HVA.out _) ?_
    rintro _ w1 ⟨s1, t1, u1, s2, t2, u2, rfl, hV1, hV2, hb⟩
    replace hF := rf_next hF hb
    have hG := rh_made 48 hF (.bool VN) (.slice s1 t1 u1) (.slice s2 t2 u2)
    have HV1 : Hid (NatIs 2050 (w1.alloc (.cells #[.bool VN, .slice s1 t1 u1, .slice s2 t2 u2] 48)) (.slice s1 t1 u1) VNUM) := hV1.kept ((Below.refl _ _).alloc (Nat.le_refl _) _)
    have HV2 : Hid (NatIs 2050 (w1.alloc (.cells #[.bool VN, .slice s1 t1 u1, .slice s2 t2 u2] 48)) (.slice s2 t2 u2) VDEN) := hV2.kept ((Below.refl _ _).alloc (Nat.le_refl _) _)
    clear hb hF hV1 hV2
    go_wp2_with fail
    generalize (w1.alloc (.cells #[.bool VN, .slice s1 t1 u1, .slice s2 t2 u2] 48)) = A at *
    generalize w1.heap.size = n9 at *
    refine Calls.mono (HFI.out _) ?_
    rintro _ w2 ⟨rfl, hb⟩
    replace hG := rh_next hG hb
    clear hb
    go_wp2_with fail
    go_ret
    exact ⟨by rw [HR.out]; rfl, hG.1.2.2.2⟩
  | true =>
    cases GP with
    | true =>
      have HR : Hid (RES = 20) := HRES2.out
      clear HRES2 z1
      go_enter Oajg.func30, Oajg.ntmps30
      go_wp2_with fail
      refine Calls.mono (HVA.out _) ?_
      rintro _ w1 ⟨s1, t1, u1, s2, t2, u2, rfl, hV1, hV2, hb⟩
      replace hF := rf_next hF hb
      have hG := rh_made 48 hF (.bool VN) (.slice s1 t1 u1) (.slice s2 t2 u2)
      have HV1 : Hid (NatIs 2050 (w1.alloc (.cells #[.bool VN, .slice s1 t1 u1, .slice s2 t2 u2] 48)) (.slice s1 t1 u1) VNUM) := hV1.kept ((Below.refl _ _).alloc (Nat.le_refl _) _)
      have HV2 : Hid (NatIs 2050 (w1.alloc (.cells #[.bool VN, .slice s1 t1 u1, .slice s2 t2 u2] 48)) (.slice s2 t2 u2) VDEN) := hV2.kept ((Below.refl _ _).alloc (Nat.le_refl _) _)
      clear hb hF hV1 hV2
      go_wp2_with fail
      generalize (w1.alloc (.cells #[.bool VN, .slice s1 t1 u1, .slice s2 t2 u2] 48)) = A at *
      generalize w1.heap.size = n9 at *
      refine Calls.mono (HFI.out _) ?_
      rintro _ w2 ⟨rfl, hb⟩
      replace hG := rh_next hG hb
      clear hb
      go_wp2_with fail
      go_region_held3 (fun W => (W.cell? ⟨w.heap.size, 0, none⟩ = some (.int .u8 (E : Int)) ∧ W.cell? ⟨w.heap.size, 1, none⟩ = some (.int .u8 (M : Int)) ∧ w.heap.size < W.heap.size ∧ Below w.heap.size w W) ∧ (W.cell? ⟨(w.heap.size + 1), 0, none⟩ = some (.bool neg) ∧ W.cell? ⟨(w.heap.size + 1), 1, none⟩ = some (.slice a1 k1 c1) ∧ W.cell? ⟨(w.heap.size + 1), 2, none⟩ = some (.slice a2 k2 c2) ∧ (∀ o, W.frozen? ⟨(w.heap.size + 1), o, none⟩ = false) ∧ (w.heap.size + 1) < W.heap.size) ∧ Kp A W ∧ (W.cell? ⟨n9, 0, none⟩ = some (.bool VN) ∧ W.cell? ⟨n9, 1, none⟩ = some (.slice s1 t1 u1) ∧ W.cell? ⟨n9, 2, none⟩ = some (.slice s2 t2 u2) ∧ (∀ o, W.frozen? ⟨n9, o, none⟩ = false) ∧ n9 < W.heap.size))
        ((repeat' (first | with_reducible assumption | with_reducible refine rh_drew ?_)))
        ((first | (go_at_call 80; refine Calls.mono (HBI.out _) ?_; rintro _ w3 ⟨rfl, hb⟩; have hG3 := rh_next (by with_reducible assumption) hb; clear hb) | (go_at_call 28; refine Calls.mono (HPW.out _) ?_; rintro _ w4 ⟨p1, p2, p3, q1, q2, q3, rfl, hN1, hN2, hb⟩; have hG4 := rh_next (by with_reducible assumption) hb; have HP1 : Hid (NatIs 2050 w4 (.slice p1 p2 p3) _) := hN1; have HP2 : Hid (NatIs 2050 w4 (.slice q1 q2 q3) _) := hN2; clear hb hN1 hN2) | (go_at_call 31; refine Calls.mono (HCS.out _ hG4.1.2.2.2 _ _ _ _ _ _ HP1.out HP2.out) ?_; rintro _ w5 ⟨rfl, hb⟩; have hG5 := rh_next (by with_reducible assumption) hb; clear hb)))
      go_wp2_with fail
      go_ret
      exact ⟨by rw [HR.out]; rfl, hG5.1.2.2.2⟩
    | false =>
      cases EQ with
      | true =>
        have HR : Hid (RES = 0) := HRES2.out
        clear HRES2 
        go_enter Oajg.func30, Oajg.ntmps30
        go_wp2_with fail
        refine Calls.mono (HVA.out _) ?_
        rintro _ w1 ⟨s1, t1, u1, s2, t2, u2, rfl, hV1, hV2, hb⟩
        replace hF := rf_next hF hb
        have hG := rh_made 48 hF (.bool VN) (.slice s1 t1 u1) (.slice s2 t2 u2)
        have HV1 : Hid (NatIs 2050 (w1.alloc (.cells #[.bool VN, .slice s1 t1 u1, .slice s2 t2 u2] 48)) (.slice s1 t1 u1) VNUM) := hV1.kept ((Below.refl _ _).alloc (Nat.le_refl _) _)
        have HV2 : Hid (NatIs 2050 (w1.alloc (.cells #[.bool VN, .slice s1 t1 u1, .slice s2 t2 u2] 48)) (.slice s2 t2 u2) VDEN) := hV2.kept ((Below.refl _ _).alloc (Nat.le_refl _) _)
        clear hb hF hV1 hV2
        go_wp2_with fail
        generalize (w1.alloc (.cells #[.bool VN, .slice s1 t1 u1, .slice s2 t2 u2] 48)) = A at *
        generalize w1.heap.size = n9 at *
        refine Calls.mono (HFI.out _) ?_
        rintro _ w2 ⟨rfl, hb⟩
        replace hG := rh_next hG hb
        clear hb
        go_wp2_with fail
        go_region_held3 (fun W => (W.cell? ⟨w.heap.size, 0, none⟩ = some (.int .u8 (E : Int)) ∧ W.cell? ⟨w.heap.size, 1, none⟩ = some (.int .u8 (M : Int)) ∧ w.heap.size < W.heap.size ∧ Below w.heap.size w W) ∧ (W.cell? ⟨(w.heap.size + 1), 0, none⟩ = some (.bool neg) ∧ W.cell? ⟨(w.heap.size + 1), 1, none⟩ = some (.slice a1 k1 c1) ∧ W.cell? ⟨(w.heap.size + 1), 2, none⟩ = some (.slice a2 k2 c2) ∧ (∀ o, W.frozen? ⟨(w.heap.size + 1), o, none⟩ = false) ∧ (w.heap.size + 1) < W.heap.size) ∧ Kp A W ∧ (W.cell? ⟨n9, 0, none⟩ = some (.bool VN) ∧ W.cell? ⟨n9, 1, none⟩ = some (.slice s1 t1 u1) ∧ W.cell? ⟨n9, 2, none⟩ = some (.slice s2 t2 u2) ∧ (∀ o, W.frozen? ⟨n9, o, none⟩ = false) ∧ n9 < W.heap.size))
          ((repeat' (first | with_reducible assumption | with_reducible refine rh_drew ?_)))
          ((first | (go_at_call 80; refine Calls.mono (HBI.out _) ?_; rintro _ w3 ⟨rfl, hb⟩; have hG3 := rh_next (by with_reducible assumption) hb; clear hb) | (go_at_call 28; refine Calls.mono (HPW.out _) ?_; rintro _ w4 ⟨p1, p2, p3, q1, q2, q3, rfl, hN1, hN2, hb⟩; have hG4 := rh_next (by with_reducible assumption) hb; have HP1 : Hid (NatIs 2050 w4 (.slice p1 p2 p3) _) := hN1; have HP2 : Hid (NatIs 2050 w4 (.slice q1 q2 q3) _) := hN2; clear hb hN1 hN2) | (go_at_call 31; refine Calls.mono (HCS.out _ hG4.1.2.2.2 _ _ _ _ _ _ HP1.out HP2.out) ?_; rintro _ w5 ⟨rfl, hb⟩; have hG5 := rh_next (by with_reducible assumption) hb; clear hb)))
        go_wp2_with fail
        refine Calls.mono (HCV.out _ hG5.1.2.2.2 _ _ _ _ _ _ (HV1.out.kp hG5.2.2.1) (HV2.out.kp hG5.2.2.1)) ?_
        rintro _ w6 ⟨rfl, hb⟩
        have hG6 := rh_next hG5 hb
        clear hb
        go_wp2_with fail
        go_ret
        exact ⟨by rw [HR.out]; rfl, hG6.1.2.2.2⟩
      | false =>
        cases IT with
        | true =>
          have HR : Hid (RES = 24) := HRES2.out
          clear HRES2 
          go_enter Oajg.func30, Oajg.ntmps30
          go_wp2_with fail
          refine Calls.mono (HVA.out _) ?_
          rintro _ w1 ⟨s1, t1, u1, s2, t2, u2, rfl, hV1, hV2, hb⟩
          replace hF := rf_next hF hb
          have hG := rh_made 48 hF (.bool VN) (.slice s1 t1 u1) (.slice s2 t2 u2)
          have HV1 : Hid (NatIs 2050 (w1.alloc (.cells #[.bool VN, .slice s1 t1 u1, .slice s2 t2 u2] 48)) (.slice s1 t1 u1) VNUM) := hV1.kept ((Below.refl _ _).alloc (Nat.le_refl _) _)
          have HV2 : Hid (NatIs 2050 (w1.alloc (.cells #[.bool VN, .slice s1 t1 u1, .slice s2 t2 u2] 48)) (.slice s2 t2 u2) VDEN) := hV2.kept ((Below.refl _ _).alloc (Nat.le_refl _) _)
          clear hb hF hV1 hV2
          go_wp2_with fail
          generalize (w1.alloc (.cells #[.bool VN, .slice s1 t1 u1, .slice s2 t2 u2] 48)) = A at *
          generalize w1.heap.size = n9 at *
          refine Calls.mono (HFI.out _) ?_
          rintro _ w2 ⟨rfl, hb⟩
          replace hG := rh_next hG hb
          clear hb
          go_wp2_with fail
          go_region_held3 (fun W => (W.cell? ⟨w.heap.size, 0, none⟩ = some (.int .u8 (E : Int)) ∧ W.cell? ⟨w.heap.size, 1, none⟩ = some (.int .u8 (M : Int)) ∧ w.heap.size < W.heap.size ∧ Below w.heap.size w W) ∧ (W.cell? ⟨(w.heap.size + 1), 0, none⟩ = some (.bool neg) ∧ W.cell? ⟨(w.heap.size + 1), 1, none⟩ = some (.slice a1 k1 c1) ∧ W.cell? ⟨(w.heap.size + 1), 2, none⟩ = some (.slice a2 k2 c2) ∧ (∀ o, W.frozen? ⟨(w.heap.size + 1), o, none⟩ = false) ∧ (w.heap.size + 1) < W.heap.size) ∧ Kp A W ∧ (W.cell? ⟨n9, 0, none⟩ = some (.bool VN) ∧ W.cell? ⟨n9, 1, none⟩ = some (.slice s1 t1 u1) ∧ W.cell? ⟨n9, 2, none⟩ = some (.slice s2 t2 u2) ∧ (∀ o, W.frozen? ⟨n9, o, none⟩ = false) ∧ n9 < W.heap.size))
            ((repeat' (first | with_reducible assumption | with_reducible refine rh_drew ?_)))
            ((first | (go_at_call 80; refine Calls.mono (HBI.out _) ?_; rintro _ w3 ⟨rfl, hb⟩; have hG3 := rh_next (by with_reducible assumption) hb; clear hb) | (go_at_call 28; refine Calls.mono (HPW.out _) ?_; rintro _ w4 ⟨p1, p2, p3, q1, q2, q3, rfl, hN1, hN2, hb⟩; have hG4 := rh_next (by with_reducible assumption) hb; have HP1 : Hid (NatIs 2050 w4 (.slice p1 p2 p3) _) := hN1; have HP2 : Hid (NatIs 2050 w4 (.slice q1 q2 q3) _) := hN2; clear hb hN1 hN2) | (go_at_call 31; refine Calls.mono (HCS.out _ hG4.1.2.2.2 _ _ _ _ _ _ HP1.out HP2.out) ?_; rintro _ w5 ⟨rfl, hb⟩; have hG5 := rh_next (by with_reducible assumption) hb; clear hb)))
          go_wp2_with fail
          refine Calls.mono (HCV.out _ hG5.1.2.2.2 _ _ _ _ _ _ (HV1.out.kp hG5.2.2.1) (HV2.out.kp hG5.2.2.1)) ?_
          rintro _ w6 ⟨rfl, hb⟩
          have hG6 := rh_next hG5 hb
          clear hb
          go_wp2_with fail
          refine Calls.mono (HIT.out _ hG6.1.2.2.2) ?_
          rintro _ w7 ⟨rfl, hb⟩
          have hG7 := rh_next hG6 hb
          clear hb
          go_wp2_with fail
          go_ret
          exact ⟨by rw [HR.out]; rfl, hG7.1.2.2.2⟩
        | false =>
          have HR : Hid (RES = 16) := HRES2.out
          clear HRES2 
          go_enter Oajg.func30, Oajg.ntmps30
          go_wp2_with fail
          refine Calls.mono (HVA.out _) ?_
          rintro _ w1 ⟨s1, t1, u1, s2, t2, u2, rfl, hV1, hV2, hb⟩
          replace hF := rf_next hF hb
          have hG := rh_made 48 hF (.bool VN) (.slice s1 t1 u1) (.slice s2 t2 u2)
          have HV1 : Hid (NatIs 2050 (w1.alloc (.cells #[.bool VN, .slice s1 t1 u1, .slice s2 t2 u2] 48)) (.slice s1 t1 u1) VNUM) := hV1.kept ((Below.refl _ _).alloc (Nat.le_refl _) _)
          have HV2 : Hid (NatIs 2050 (w1.alloc (.cells #[.bool VN, .slice s1 t1 u1, .slice s2 t2 u2] 48)) (.slice s2 t2 u2) VDEN) := hV2.kept ((Below.refl _ _).alloc (Nat.le_refl _) _)
          clear hb hF hV1 hV2
          go_wp2_with fail
          generalize (w1.alloc (.cells #[.bool VN, .slice s1 t1 u1, .slice s2 t2 u2] 48)) = A at *
          generalize w1.heap.size = n9 at *
          refine Calls.mono (HFI.out _) ?_
          rintro _ w2 ⟨rfl, hb⟩
          replace hG := rh_next hG hb
          clear hb
          go_wp2_with fail
          go_region_held3 (fun W => (W.cell? ⟨w.heap.size, 0, none⟩ = some (.int .u8 (E : Int)) ∧ W.cell? ⟨w.heap.size, 1, none⟩ = some (.int .u8 (M : Int)) ∧ w.heap.size < W.heap.size ∧ Below w.heap.size w W) ∧ (W.cell? ⟨(w.heap.size + 1), 0, none⟩ = some (.bool neg) ∧ W.cell? ⟨(w.heap.size + 1), 1, none⟩ = some (.slice a1 k1 c1) ∧ W.cell? ⟨(w.heap.size + 1), 2, none⟩ = some (.slice a2 k2 c2) ∧ (∀ o, W.frozen? ⟨(w.heap.size + 1), o, none⟩ = false) ∧ (w.heap.size + 1) < W.heap.size) ∧ Kp A W ∧ (W.cell? ⟨n9, 0, none⟩ = some (.bool VN) ∧ W.cell? ⟨n9, 1, none⟩ = some (.slice s1 t1 u1) ∧ W.cell? ⟨n9, 2, none⟩ = some (.slice s2 t2 u2) ∧ (∀ o, W.frozen? ⟨n9, o, none⟩ = false) ∧ n9 < W.heap.size))
            ((repeat' (first | with_reducible assumption | with_reducible refine rh_drew ?_)))
            ((first | (go_at_call 80; refine Calls.mono (HBI.out _) ?_; rintro _ w3 ⟨rfl, hb⟩; have hG3 := rh_next (by with_reducible assumption) hb; clear hb) | (go_at_call 28; refine Calls.mono (HPW.out _) ?_; rintro _ w4 ⟨p1, p2, p3, q1, q2, q3, rfl, hN1, hN2, hb⟩; have hG4 := rh_next (by with_reducible assumption) hb; have HP1 : Hid (NatIs 2050 w4 (.slice p1 p2 p3) _) := hN1; have HP2 : Hid (NatIs 2050 w4 (.slice q1 q2 q3) _) := hN2; clear hb hN1 hN2) | (go_at_call 31; refine Calls.mono (HCS.out _ hG4.1.2.2.2 _ _ _ _ _ _ HP1.out HP2.out) ?_; rintro _ w5 ⟨rfl, hb⟩; have hG5 := rh_next (by with_reducible assumption) hb; clear hb)))
          go_wp2_with fail
          refine Calls.mono (HCV.out _ hG5.1.2.2.2 _ _ _ _ _ _ (HV1.out.kp hG5.2.2.1) (HV2.out.kp hG5.2.2.1)) ?_
          rintro _ w6 ⟨rfl, hb⟩
          have hG6 := rh_next hG5 hb
          clear hb
          go_wp2_with fail
          refine Calls.mono (HIT.out _ hG6.1.2.2.2) ?_
          rintro _ w7 ⟨rfl, hb⟩
          have hG7 := rh_next hG6 hb
          clear hb
          go_wp2_with fail
          go_ret
          exact ⟨by rw [HR.out]; rfl, hG7.1.2.2.2⟩

end Go.Proofs.Ygcoaj
