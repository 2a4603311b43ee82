/-
  WALKS: exact.raised, exact.pack, exact.MakeRat.
-/
import Derived.Test.YgcoajRnd1
set_option linter.unusedVariables false
set_option linter.unusedSimpArgs false
namespace Go.Proofs.Ygcoaj
open Go.RowKit

theorem bx2_store {W : World} {n : Nat} {u0 u1 : Value} (h : (W.cell? ⟨n, 0, none⟩ = some u0 ∧ W.cell? ⟨n, 1, none⟩ = some u1 ∧ (∀ o, W.frozen? ⟨n, o, none⟩ = false) ∧ n < W.heap.size)) (v0 v1 : Value) : (((W.setCell ⟨n, 0, none⟩ v0).setCell ⟨n, 1, none⟩ v1).cell? ⟨n, 0, none⟩ = some v0 ∧ ((W.setCell ⟨n, 0, none⟩ v0).setCell ⟨n, 1, none⟩ v1).cell? ⟨n, 1, none⟩ = some v1 ∧ (∀ o, ((W.setCell ⟨n, 0, none⟩ v0).setCell ⟨n, 1, none⟩ v1).frozen? ⟨n, o, none⟩ = false) ∧ n < ((W.setCell ⟨n, 0, none⟩ v0).setCell ⟨n, 1, none⟩ v1).heap.size) := by
  refine ⟨?_, ?_, fun o => ?_, ?_⟩
  · rw [other _ _ (by simp)]; exact World.cell?_setCell_same _ _ _ h.1
  · have h2 : (W.setCell ⟨n, 0, none⟩ v0).cell? ⟨n, 1, none⟩ = some u1 := by rw [other _ _ (by simp)]; exact h.2.1
    exact World.cell?_setCell_same _ _ _ h2
  · rw [World.frozen?_setCell, World.frozen?_setCell]; exact h.2.2.1 o
  · simp only [World.size_setCell]; exact h.2.2.2

theorem rz_next {w W W' A : World} {n m : Nat} {u0 u1 x0 x1 : Value} (h : (W.cell? ⟨n, 0, none⟩ = some u0 ∧ W.cell? ⟨n, 1, none⟩ = some u1 ∧ (∀ o, W.frozen? ⟨n, o, none⟩ = false) ∧ n < W.heap.size) ∧ (W.cell? ⟨m, 0, none⟩ = some x0 ∧ W.cell? ⟨m, 1, none⟩ = some x1 ∧ (∀ o, W.frozen? ⟨m, o, none⟩ = false) ∧ m < W.heap.size) ∧ Kp A W ∧ Below w.heap.size w W) (hb : Below W.heap.size W W') : (W'.cell? ⟨n, 0, none⟩ = some u0 ∧ W'.cell? ⟨n, 1, none⟩ = some u1 ∧ (∀ o, W'.frozen? ⟨n, o, none⟩ = false) ∧ n < W'.heap.size) ∧ (W'.cell? ⟨m, 0, none⟩ = some x0 ∧ W'.cell? ⟨m, 1, none⟩ = some x1 ∧ (∀ o, W'.frozen? ⟨m, o, none⟩ = false) ∧ m < W'.heap.size) ∧ Kp A W' ∧ Below w.heap.size w W' :=
  ⟨bx2_next h.1 hb, bx2_next h.2.1 hb, h.2.2.1.trans (Kp.of hb), below_then h.2.2.2 hb⟩
theorem rz_drew {w W A : World} {n m : Nat} {u0 u1 x0 x1 : Value} (h : (W.cell? ⟨n, 0, none⟩ = some u0 ∧ W.cell? ⟨n, 1, none⟩ = some u1 ∧ (∀ o, W.frozen? ⟨n, o, none⟩ = false) ∧ n < W.heap.size) ∧ (W.cell? ⟨m, 0, none⟩ = some x0 ∧ W.cell? ⟨m, 1, none⟩ = some x1 ∧ (∀ o, W.frozen? ⟨m, o, none⟩ = false) ∧ m < W.heap.size) ∧ Kp A W ∧ Below w.heap.size w W) : (W.drew.cell? ⟨n, 0, none⟩ = some u0 ∧ W.drew.cell? ⟨n, 1, none⟩ = some u1 ∧ (∀ o, W.drew.frozen? ⟨n, o, none⟩ = false) ∧ n < W.drew.heap.size) ∧ (W.drew.cell? ⟨m, 0, none⟩ = some x0 ∧ W.drew.cell? ⟨m, 1, none⟩ = some x1 ∧ (∀ o, W.drew.frozen? ⟨m, o, none⟩ = false) ∧ m < W.drew.heap.size) ∧ Kp A W.drew ∧ Below w.heap.size w W.drew :=
  ⟨bx2_drew h.1, bx2_drew h.2.1, h.2.2.1.drew, h.2.2.2.drew⟩
theorem rz_made {w W : World} {n : Nat} {u0 u1 : Value} (t : Nat) (h : (W.cell? ⟨n, 0, none⟩ = some u0 ∧ W.cell? ⟨n, 1, none⟩ = some u1 ∧ (∀ o, W.frozen? ⟨n, o, none⟩ = false) ∧ n < W.heap.size)) (hb : Below w.heap.size w W) (v0 v1 : Value) :
    ((W.alloc (.cells #[v0, v1] t)).cell? ⟨n, 0, none⟩ = some u0 ∧ (W.alloc (.cells #[v0, v1] t)).cell? ⟨n, 1, none⟩ = some u1 ∧ (∀ o, (W.alloc (.cells #[v0, v1] t)).frozen? ⟨n, o, none⟩ = false) ∧ n < (W.alloc (.cells #[v0, v1] t)).heap.size) ∧ ((W.alloc (.cells #[v0, v1] t)).cell? ⟨W.heap.size, 0, none⟩ = some v0 ∧ (W.alloc (.cells #[v0, v1] t)).cell? ⟨W.heap.size, 1, none⟩ = some v1 ∧ (∀ o, (W.alloc (.cells #[v0, v1] t)).frozen? ⟨W.heap.size, o, none⟩ = false) ∧ W.heap.size < (W.alloc (.cells #[v0, v1] t)).heap.size) ∧ Kp W (W.alloc (.cells #[v0, v1] t)) ∧ Below w.heap.size w (W.alloc (.cells #[v0, v1] t)) :=
  ⟨bx2_alloc h _, bx2_made W (m := W.heap.size) v0 v1 t rfl, Kp.of ((Below.refl _ _).alloc (Nat.le_refl _) _), hb.alloc hb.size _⟩

def rzN (mo : Nat) (neg : Bool) (n m : Nat) : Nat := n / m + (if rdX mo neg (n / m % 2 == 1) (hfX n m) (smX n m) then 1 else 0)
theorem hfX_range (n m : Nat) : hfX n m = -1 ∨ hfX n m = 0 ∨ hfX n m = 1 := by
  unfold hfX cmpZ
  split
  · exact Or.inl rfl
  · split
    · exact Or.inr (Or.inl rfl)
    · exact Or.inr (Or.inr rfl)

set_option maxRecDepth 100000 in
set_option maxHeartbeats 2000000 in
theorem raised_ok (mo : Nat) (neg : Bool) (B n m : Nat) (a1 a2 : Option Addr) (k1 c1 k2 c2 : Nat) (w : World) (h1 : NatIs B w (.slice a1 k1 c1) n) (h2 : NatIs B w (.slice a2 k2 c2) m) (hB : B ≤ 10000000) (hm : m ≠ 0) :
    Calls Oajg.prog 123 #[.int .u8 (mo : Int), .bool neg, .slice a1 k1 c1, .slice a2 k2 c2] w fun e w' => ∃ b1 l1 e1, e = .returned (.tuple #[.slice b1 l1 e1, .agg #[.int .i8 (hfX n m), .bool (smX n m)]]) ∧ NatIs (B + 3) w' (.slice b1 l1 e1) (rzN mo neg n m) ∧ Below w.heap.size w w' := by
  have hR := bx2_made w (m := w.heap.size) (.int .i8 0) (.bool false) 152 rfl
  have HB0 : Hid (Below w.heap.size w (w.alloc (.cells #[.int .i8 0, .bool false] 152))) := (Below.refl _ _).alloc (Nat.le_refl _) _
  have HD : Hid (Calls Oajg.prog 170 #[.slice a1 k1 c1, .slice a2 k2 c2] (w.alloc (.cells #[.int .i8 0, .bool false] 152)) fun e w' => ∃ b1 l1 e1, e = .returned (.tuple #[.slice b1 l1 e1, .agg #[.int .i8 (hfX n m), .bool (smX n m)]]) ∧ NatIs (B + 2) w' (.slice b1 l1 e1) (n / m) ∧ Below (w.alloc (.cells #[.int .i8 0, .bool false] 152)).heap.size (w.alloc (.cells #[.int .i8 0, .bool false] 152)) w') :=
    floor_ok B n m a1 a2 k1 c1 k2 c2 _ (h1.kept HB0.out) (h2.kept HB0.out) hB hm
  have HH := hfX_range n m
  obtain ⟨SM, HSM⟩ : ∃ SM, Hid (smX n m = SM) := ⟨_, rfl⟩
  obtain ⟨HF, HHF⟩ : ∃ HF, Hid (hfX n m = HF) := ⟨_, rfl⟩
  obtain ⟨Q, HQQ⟩ : ∃ Q, Hid (n / m = Q) := ⟨_, rfl⟩
  have HRZ : Hid (rzN mo neg n m = Q + (if rdX mo neg (Q % 2 == 1) HF SM then 1 else 0)) := by show _ = _; unfold rzN; rw [HHF.out, HSM.out, HQQ.out]
  rw [HHF.out] at HH
  rw [HHF.out, HSM.out, HQQ.out] at HD
  rw [HHF.out, HSM.out, HRZ.out]
  have HRS : Hid (∀ w, Calls Oajg.prog 171 #[.int .u8 (mo : Int), .bool neg, .bool (Q % 2 == 1), .agg #[.int .i8 HF, .bool SM]] w fun e w' => e = .returned (.bool (rdX mo neg (Q % 2 == 1) HF SM)) ∧ Below w.heap.size w w') := raisesX_ok mo neg _ HF SM HH
  clear h1 h2 HH HRZ HSM HHF HQQ
  obtain ⟨OD, HOD⟩ : ∃ OD, Hid ((Q % 2 == 1) = OD) := ⟨_, rfl⟩
  rw [HOD.out] at HRS ⊢
  obtain ⟨V, HV⟩ : ∃ V, Hid (Q + (if rdX mo neg OD HF SM then 1 else 0) = V) := ⟨_, rfl⟩
  rw [HV.out]
  go_enter Oajg.func123, Oajg.ntmps123
  go_wp2_with fail
  refine Calls.mono HD.out ?_
  rintro _ w1 ⟨b1, l1, e1, rfl, hq, hb⟩
  have hR1 := bx2_next hR hb
  have hb1 := below_then HB0.out hb
  have hS := rz_made (w := w) (W := w1) (n := w.heap.size) 152 hR1 hb1 (.int .i8 HF) (.bool SM)
  have HQ1 : Hid (NatIs (B + 2) w1 (.slice b1 l1 e1) Q) := hq
  have HBIT : Hid (∀ W, ((W.cell? ⟨w.heap.size, 0, none⟩ = some (.int .i8 0) ∧ W.cell? ⟨w.heap.size, 1, none⟩ = some (.bool false) ∧ (∀ o, W.frozen? ⟨w.heap.size, o, none⟩ = false) ∧ w.heap.size < W.heap.size) ∧ (W.cell? ⟨w1.heap.size, 0, none⟩ = some (.int .i8 HF) ∧ W.cell? ⟨w1.heap.size, 1, none⟩ = some (.bool SM) ∧ (∀ o, W.frozen? ⟨w1.heap.size, o, none⟩ = false) ∧ w1.heap.size < W.heap.size) ∧ Kp w1 W ∧ Below w.heap.size w W) → Calls Oajg.prog 172 #[.slice b1 l1 e1, .int .i64 0] W fun e w' => e = .returned (.bool OD) ∧ Below W.heap.size W w') := fun W hW => by have := bit0_ok (B + 2) _ Q W (HQ1.out.kp hW.2.2.1) (by omega); rw [HOD.out] at this; exact this
  have hn11 : Hid (w.heap.size ≤ w1.heap.size) := hb1.size
  clear hq hb hR hR1 hb1 HD HB0 HOD
  go_wp2_with fail
  go_region_held3 (fun W => (W.cell? ⟨w.heap.size, 0, none⟩ = some (.int .i8 0) ∧ W.cell? ⟨w.heap.size, 1, none⟩ = some (.bool false) ∧ (∀ o, W.frozen? ⟨w.heap.size, o, none⟩ = false) ∧ w.heap.size < W.heap.size) ∧ (W.cell? ⟨w1.heap.size, 0, none⟩ = some (.int .i8 HF) ∧ W.cell? ⟨w1.heap.size, 1, none⟩ = some (.bool SM) ∧ (∀ o, W.frozen? ⟨w1.heap.size, o, none⟩ = false) ∧ w1.heap.size < W.heap.size) ∧ Kp w1 W ∧ Below w.heap.size w W)
    ((repeat' (first | with_reducible assumption | with_reducible refine rz_drew ?_)))
    ((first | (go_at_call 172; (with_reducible refine Calls.mono (HBIT.out _ ?hh) ?_); (case hh => with_reducible assumption); rintro _ w2 ⟨rfl, hb⟩; have hS2 := rz_next (by with_reducible assumption) hb; clear hb) | (go_at_call 171; refine Calls.mono (HRS.out _) ?_; rintro _ w3 ⟨rfl, hb⟩; have hS3 := rz_next (by with_reducible assumption) hb; clear hb)))
  clear hS hS2 HBIT HRS
  cases hrd : rdX mo neg OD HF SM with
  | false =>
    have HVV : Hid (V = Q) := by show _ = _; have := HV.out; rw [hrd] at this; simpa using this.symm
    clear hrd HV
    have HQ3 : Hid (NatIs (B + 3) w3 (.slice b1 l1 e1) Q) := (HQ1.out.kp hS3.2.2.1).mono (by omega)
    have HB3 : Hid (Below w.heap.size w w3) := hS3.2.2.2
    have hX := hS3.2.1
    have hY := hS3.1
    clear hS3
    go_wp2_with fail
    go_region
    go_wp2_with fail
    have hkp := store2 hY (not32_i8 _) (not32_bool _) (.int .i8 HF) (.bool SM)
    refine bodyPost_ret (v := .tuple #[.slice b1 l1 e1, .agg #[.int .i8 HF, .bool SM]]) (by simp [results, Oajg.results123, go_sem, hY]) rfl ⟨_, _, _, rfl, by rw [HVV.out]; exact HQ3.out.kp hkp.drew, ?_⟩
    exact ((HB3.out.setCell (Nat.le_refl _) _).setCell (Nat.le_refl _) _).drew
  | true =>
    have HVV : Hid (V = Q + 1) := by show _ = _; have := HV.out; rw [hrd] at this; simpa using this.symm
    clear hrd HV
    have HSU : Hid (Calls Oajg.prog 173 #[.slice b1 l1 e1] w3 fun e w' => ∃ ad k c, e = .returned (.slice ad k c) ∧ NatIs (B + 2 + 1) w' (.slice ad k c) (Q + 1) ∧ Below w3.heap.size w3 w') := shaped (succ_ok (B + 2) _ Q w3 (HQ1.out.kp hS3.2.2.1) (by omega))
    go_wp2_with fail
    refine Calls.mono HSU.out ?_
    rintro _ w4 ⟨b2, l2, e2, rfl, hN, hb⟩
    have hS4 := rz_next hS3 hb
    have HQ3 : Hid (NatIs (B + 3) w4 (.slice b2 l2 e2) (Q + 1)) := hN
    have HB3 : Hid (Below w.heap.size w w4) := hS4.2.2.2
    have hX := hS4.2.1
    have hY := hS4.1
    clear hS3 hS4 hN hb HSU
    go_wp2_with fail
    go_region
    go_wp2_with fail
    have hkp := store2 hY (not32_i8 _) (not32_bool _) (.int .i8 HF) (.bool SM)
    refine bodyPost_ret (v := .tuple #[.slice b2 l2 e2, .agg #[.int .i8 HF, .bool SM]]) (by simp [results, Oajg.results123, go_sem, hY]) rfl ⟨_, _, _, rfl, by rw [HVV.out]; exact HQ3.out.kp hkp.drew, ?_⟩
    exact ((HB3.out.setCell (Nat.le_refl _) _).setCell (Nat.le_refl _) _).drew

/-! ### pack -/
def pkN (E M mo : Nat) (neg : Bool) (D n : Nat) (sm tiny : Bool) : Nat := if infN E M ≤ D * 2 ^ M + n then ovN E M mo neg else sgnd E M neg (D * 2 ^ M + n)
def pkF (E M : Nat) (D n : Nat) (sm tiny : Bool) : Nat := if infN E M ≤ D * 2 ^ M + n then 20 else if !sm then 0 else if tiny then 24 else 16

theorem infN_lt (E M : Nat) : infN E M < 2 ^ (E + M) := by
  unfold infN
  rw [Nat.pow_add]
  have h1 : 1 ≤ 2 ^ E := Nat.one_le_two_pow
  have h2 : 1 ≤ 2 ^ M := Nat.one_le_two_pow
  exact Nat.mul_lt_mul_of_pos_right (by omega) h2

theorem or_zero_ok {E M : Nat} (h : FOk E M) (neg : Bool) {x : Nat} (hx : x < 2 ^ (E + M)) : bits .or .u64 (x : Int) ((sgnd E M neg 0 : Nat) : Int) = ((sgnd E M neg x : Nat) : Int) := by
  have hp : 2 ^ (E + M) ≤ 9223372036854775808 := pow2_lt64 _ (by have := h.e11; have := h.m52; omega)
  cases neg with
  | false =>
    have e : bits .or .u64 (x : Int) ((0 : Nat) : Int) = ((x ||| 0 : Nat) : Int) := u64_or_nat _ _ (by omega) (by omega)
    rw [Nat.or_zero] at e
    exact e
  | true =>
    have e : bits .or .u64 (x : Int) ((2 ^ (E + M) : Nat) : Int) = ((x ||| 2 ^ (E + M) : Nat) : Int) := u64_or_nat _ _ (by omega) (by omega)
    rw [or_top hx] at e
    have e1 : sgnd E M true 0 = 2 ^ (E + M) := by simp [sgnd]
    have e2 : sgnd E M true x = x + 2 ^ (E + M) := by simp [sgnd]
    rw [e1, e2]
    exact e

theorem sp_next {w W W' : World} {b E M m : Nat} {x0 x1 : Value} (h : (W.cell? ⟨b, 0, none⟩ = some (.int .u8 (E : Int)) ∧ W.cell? ⟨b, 1, none⟩ = some (.int .u8 (M : Int)) ∧ b < W.heap.size ∧ Below w.heap.size w W) ∧ (W.cell? ⟨m, 0, none⟩ = some x0 ∧ W.cell? ⟨m, 1, none⟩ = some x1 ∧ (∀ o, W.frozen? ⟨m, o, none⟩ = false) ∧ m < W.heap.size)) (hb : Below W.heap.size W W') :
    (W'.cell? ⟨b, 0, none⟩ = some (.int .u8 (E : Int)) ∧ W'.cell? ⟨b, 1, none⟩ = some (.int .u8 (M : Int)) ∧ b < W'.heap.size ∧ Below w.heap.size w W') ∧ (W'.cell? ⟨m, 0, none⟩ = some x0 ∧ W'.cell? ⟨m, 1, none⟩ = some x1 ∧ (∀ o, W'.frozen? ⟨m, o, none⟩ = false) ∧ m < W'.heap.size) := ⟨sf_next h.1 hb, bx2_next h.2 hb⟩
theorem sp_drew {w W : World} {b E M m : Nat} {x0 x1 : Value} (h : (W.cell? ⟨b, 0, none⟩ = some (.int .u8 (E : Int)) ∧ W.cell? ⟨b, 1, none⟩ = some (.int .u8 (M : Int)) ∧ b < W.heap.size ∧ Below w.heap.size w W) ∧ (W.cell? ⟨m, 0, none⟩ = some x0 ∧ W.cell? ⟨m, 1, none⟩ = some x1 ∧ (∀ o, W.frozen? ⟨m, o, none⟩ = false) ∧ m < W.heap.size)) :
    (W.drew.cell? ⟨b, 0, none⟩ = some (.int .u8 (E : Int)) ∧ W.drew.cell? ⟨b, 1, none⟩ = some (.int .u8 (M : Int)) ∧ b < W.drew.heap.size ∧ Below w.heap.size w W.drew) ∧ (W.drew.cell? ⟨m, 0, none⟩ = some x0 ∧ W.drew.cell? ⟨m, 1, none⟩ = some x1 ∧ (∀ o, W.drew.frozen? ⟨m, o, none⟩ = false) ∧ m < W.drew.heap.size) := ⟨sf_drew h.1, bx2_drew h.2⟩

set_option maxRecDepth 100000 in
set_option maxHeartbeats 2000000 in
theorem pack_ok (E M : Nat) (h : FOk E M) (mo : Nat) (neg : Bool) (D n : Nat) (hf : Int) (sm tiny : Bool) (hD : D ≤ 2 ^ E) (hn : n ≤ 2 ^ (M + 1)) (w : World) :
    Calls Oajg.prog 124 #[.agg #[.int .u8 (E : Int), .int .u8 (M : Int)], .int .u8 (mo : Int), .bool neg, .int .i64 (1 - (biasN E : Int) + (D : Int)), .int .u64 (n : Int), .agg #[.int .i8 hf, .bool sm], .bool tiny] w fun e w' => e = .returned (.tuple #[.int .u64 (pkN E M mo neg D n sm tiny : Nat), .int .u8 (pkF E M D n sm tiny : Nat)]) ∧ Below w.heap.size w w' := by
  have hS := (show ((w.alloc (.cells #[.int .u8 (E : Int), .int .u8 (M : Int)] 23)).alloc (.cells #[.int .i8 hf, .bool sm] 152)).cell? ⟨w.heap.size, 0, none⟩ = some (.int .u8 (E : Int)) ∧ ((w.alloc (.cells #[.int .u8 (E : Int), .int .u8 (M : Int)] 23)).alloc (.cells #[.int .i8 hf, .bool sm] 152)).cell? ⟨w.heap.size, 1, none⟩ = some (.int .u8 (M : Int)) ∧ w.heap.size < ((w.alloc (.cells #[.int .u8 (E : Int), .int .u8 (M : Int)] 23)).alloc (.cells #[.int .i8 hf, .bool sm] 152)).heap.size ∧ Below w.heap.size w ((w.alloc (.cells #[.int .u8 (E : Int), .int .u8 (M : Int)] 23)).alloc (.cells #[.int .i8 hf, .bool sm] 152)) from sf_alloc (sf_box w E M) _)
  have hT := bx2_made (w.alloc (.cells #[.int .u8 (E : Int), .int .u8 (M : Int)] 23)) (m := w.heap.size + 1) (.int .i8 hf) (.bool sm) 152 (by simp)
  have hQ := And.intro hS hT
  clear hS hT
  have HE : Hid (∀ w, Calls Oajg.prog 120 #[.agg #[.int .u8 (E : Int), .int .u8 (M : Int)]] w fun e w' => e = .returned (.int .i64 (1 - (biasN E : Int))) ∧ Below w.heap.size w w') := emin_ok E M h
  have HI : Hid (∀ w, Calls Oajg.prog 84 #[.agg #[.int .u8 (E : Int), .int .u8 (M : Int)], .bool false] w fun e w' => e = .returned (.int .u64 (infN E M : Nat)) ∧ Below w.heap.size w w') := inf_ok E M h false
  have HO : Hid (∀ w, Calls Oajg.prog 122 #[.agg #[.int .u8 (E : Int), .int .u8 (M : Int)], .int .u8 (mo : Int), .bool neg] w fun e w' => e = .returned (.tuple #[.int .u64 (ovN E M mo neg : Nat), .int .u8 20]) ∧ Below w.heap.size w w') := overflowX_ok E M h mo neg
  have HZ : Hid (∀ w, Calls Oajg.prog 119 #[.agg #[.int .u8 (E : Int), .int .u8 (M : Int)], .bool neg] w fun e w' => e = .returned (.int .u64 (sgnd E M neg 0 : Nat)) ∧ Below w.heap.size w w') := zeroX_ok E M h neg
  have hbias := biasN_le h.e11
  have hM := h.m52
  have hE := h.e11
  have hinf := infN_lt E M
  have hp : 2 ^ (E + M) ≤ 9223372036854775808 := pow2_lt64 _ (by omega)
  have hDM : D * 2 ^ M ≤ 2 ^ (E + M) := by rw [Nat.pow_add]; exact Nat.mul_le_mul_right _ hD
  have hM1 : 2 ^ (M + 1) ≤ 2 ^ 53 := Nat.pow_le_pow_right (by decide) (by omega)
  have hDb : D ≤ 2 ^ 11 := Nat.le_trans hD (Nat.pow_le_pow_right (by decide) hE)
  obtain ⟨y, hy⟩ : ∃ y, y = D * 2 ^ M := ⟨_, rfl⟩
  obtain ⟨x, hx⟩ : ∃ x, x = D * 2 ^ M + n := ⟨_, rfl⟩
  have hxy : (y : Int) + (n : Int) = (x : Int) := by omega
  have hx64 : x < 18446744073709551616 := by omega
  have hy64 : y < 18446744073709551616 := by omega
  have k1 : (D : Int) * 2 ^ M = (y : Int) := by rw [hy]; push_cast; rfl
  have k2 : IntKind.u64.wrap ((D : Int) * 2 ^ M) = (y : Int) := by rw [k1]; exact wrap64 hy64
  have kX : IntKind.u64.wrap (IntKind.u64.wrap (IntKind.u64.wrap (IntKind.i64.wrap (D : Int)) * 2 ^ M) + (n : Int)) = (x : Int) := by
    have q1 : IntKind.i64.wrap (D : Int) = (D : Int) := by rw [IntKind.wrap_i64]; omega
    have q2 : IntKind.u64.wrap (D : Int) = (D : Int) := wrap64 (by omega)
    rw [q1, q2, k2, hxy]; exact wrap64 hx64
  have k3 : (1 : Int) - (biasN E : Int) + (D : Int) - (1 - (biasN E : Int)) = (D : Int) := by omega
  have HOR : Hid (x < infN E M → bits .or .u64 (x : Int) ((sgnd E M neg 0 : Nat) : Int) = ((sgnd E M neg x : Nat) : Int)) := fun hlt => or_zero_ok h neg (by omega)
  have HRN : Hid (pkN E M mo neg D n sm tiny = if infN E M ≤ x then ovN E M mo neg else sgnd E M neg x) := by show _ = _; unfold pkN; rw [hx]
  have HRF : Hid (pkF E M D n sm tiny = if infN E M ≤ x then 20 else if !sm then 0 else if tiny then 24 else 16) := by show _ = _; unfold pkF; rw [hx]
  clear h hinf hp hDM hM1 hy hx hD k1
  generalize pkN E M mo neg D n sm tiny = RN at *
  generalize pkF E M D n sm tiny = RF at *
  generalize infN E M = I at *
  generalize biasN E = Bi at *
  generalize ovN E M mo neg = OV at *
  generalize sgnd E M neg 0 = Z0 at *
  generalize sgnd E M neg x = ZX at *
  go_enter Oajg.func124, Oajg.ntmps124
  go_wp2_with fail
  go_region_held3 (fun W => (W.cell? ⟨w.heap.size, 0, none⟩ = some (.int .u8 (E : Int)) ∧ W.cell? ⟨w.heap.size, 1, none⟩ = some (.int .u8 (M : Int)) ∧ w.heap.size < W.heap.size ∧ Below w.heap.size w W) ∧ (W.cell? ⟨(w.heap.size + 1), 0, none⟩ = some (.int .i8 hf) ∧ W.cell? ⟨(w.heap.size + 1), 1, none⟩ = some (.bool sm) ∧ (∀ o, W.frozen? ⟨(w.heap.size + 1), o, none⟩ = false) ∧ (w.heap.size + 1) < W.heap.size))
    ((repeat' (first | with_reducible assumption | with_reducible refine sp_drew ?_)))
    ((go_at_call 120; refine Calls.mono (HE.out _) ?_; rintro _ w1 ⟨rfl, hb⟩; have hQ1 := sp_next (by with_reducible assumption) hb; clear hb))
  clear hQ
  clear kX k2 k3
  go_wp2_with fail
  refine Calls.mono (HI.out _) ?_
  rintro _ w2 ⟨rfl, hb⟩
  have hQ2 := sp_next hQ1 hb
  clear hb hQ1
  by_cases hov : I ≤ x
  · have hovI : (I : Int) ≤ (x : Int) := by omega
    have HRN2 : Hid (RN = OV) := by show _ = _; rw [HRN.out, if_pos hov]
    have HRF2 : Hid (RF = 20) := by show _ = _; rw [HRF.out, if_pos hov]
    clear hov HRN HRF
    go_wp2_with fail
    refine Calls.mono (HO.out _) ?_
    rintro _ w3 ⟨rfl, hb⟩
    have hQ3 := sp_next hQ2 hb
    clear hb hQ2
    go_wp2_with fail
    go_ret2
    exact ⟨by rw [HRN2.out, HRF2.out]; rfl, hQ3.1.2.2.2⟩
  · have hovB : decide ((I : Int) ≤ (x : Int)) = false := by rw [decide_eq_false_iff_not]; omega
    have hor := HOR.out (by omega)
    have HRN2 : Hid (RN = ZX) := by show _ = _; rw [HRN.out, if_neg hov]
    have HRF2 : Hid (RF = if !sm then 0 else if tiny then 24 else 16) := by show _ = _; rw [HRF.out, if_neg hov]
    have hlt1 : (x : Int) < (I : Int) := by omega
    have hlt2 : x < I := by omega
    clear hov hovB HRN HRF HOR
    cases sm with
    | false =>
      have HRF3 : Hid (RF = 0) := HRF2.out
      clear HRF2
      go_wp2_with fail
      refine Calls.mono (HZ.out _) ?_
      rintro _ w3 ⟨rfl, hb⟩
      have hQ3 := sp_next hQ2 hb
      clear hb hQ2
      go_wp2_with fail
      go_ret2
      exact ⟨by rw [HRN2.out, HRF3.out]; rfl, hQ3.1.2.2.2⟩
    | true =>
      cases tiny with
      | false =>
        have HRF3 : Hid (RF = 16) := HRF2.out
        clear HRF2
        go_wp2_with fail
        refine Calls.mono (HZ.out _) ?_
        rintro _ w3 ⟨rfl, hb⟩
        have hQ3 := sp_next hQ2 hb
        clear hb hQ2
        go_wp2_with fail
        go_ret2
        exact ⟨by rw [HRN2.out, HRF3.out]; rfl, hQ3.1.2.2.2⟩
      | true =>
        have HRF3 : Hid (RF = 24) := HRF2.out
        clear HRF2
        go_wp2_with fail
        refine Calls.mono (HZ.out _) ?_
        rintro _ w3 ⟨rfl, hb⟩
        have hQ3 := sp_next hQ2 hb
        clear hb hQ2
        go_wp2_with fail
        go_ret2
        exact ⟨by rw [HRN2.out, HRF3.out]; rfl, hQ3.1.2.2.2⟩

/-! ### MakeRat -/
set_option maxRecDepth 100000 in
set_option maxHeartbeats 2000000 in
theorem makeRat_ok (neg : Bool) (B n d : Nat) (a1 a2 : Option Addr) (k1 c1 k2 c2 : Nat) (w : World) (h1 : NatIs B w (.slice a1 k1 c1) n) (h2 : NatIs B w (.slice a2 k2 c2) d) (hB : B ≤ 10000000) (hd : d ≠ 0) :
    Calls Oajg.prog 118 #[.bool neg, .slice a1 k1 c1, .slice a2 k2 c2] w fun e w' => ∃ b1 l1 e1 b2 l2 e2, e = .returned (.agg #[.bool neg, .slice b1 l1 e1, .slice b2 l2 e2]) ∧ NatIs B w' (.slice b1 l1 e1) n ∧ NatIs B w' (.slice b2 l2 e2) d ∧ Below w.heap.size w w' := by
  have hR := bx3_made w (m := w.heap.size) (.bool false) (.slice none 0 0) (.slice none 0 0) 48 rfl
  have HB : Hid (Below w.heap.size w (w.alloc (.cells #[.bool false, .slice none 0 0, .slice none 0 0] 48))) := (Below.refl _ _).alloc (Nat.le_refl _) _
  have HT2 : Hid (Calls Oajg.prog 166 #[.slice a2 k2 c2] (w.alloc (.cells #[.bool false, .slice none 0 0, .slice none 0 0] 48)) fun e w' => ∃ ad k c, e = .returned (.slice ad k c) ∧ NatIs B w' (.slice ad k c) d ∧ Below (w.alloc (.cells #[.bool false, .slice none 0 0, .slice none 0 0] 48)).heap.size (w.alloc (.cells #[.bool false, .slice none 0 0, .slice none 0 0] 48)) w') := shaped (take_ok B _ d _ (h2.kept HB.out) (by omega))
  have HN1 : Hid (NatIs B w (.slice a1 k1 c1) n) := h1
  have hnil := eql_nil
  clear h1 h2
  go_enter Oajg.func118, Oajg.ntmps118
  go_wp2_with fail
  refine Calls.mono HT2.out ?_
  rintro _ w1 ⟨b2, l2, e2, rfl, hN2, hb⟩
  replace hR := bx3_next hR hb
  have HB1 : Hid (Below w.heap.size w w1) := below_then HB.out hb
  have HT1 : Hid (Calls Oajg.prog 166 #[.slice a1 k1 c1] w1 fun e w' => ∃ ad k c, e = .returned (.slice ad k c) ∧ NatIs B w' (.slice ad k c) n ∧ Below w1.heap.size w1 w') := shaped (take_ok B _ n w1 (HN1.out.kept HB1.out) (by omega))
  have hnn : b2.isNone = false := by rw [hN2.none_eq]; simp [hd]
  have HN2 : Hid (NatIs B w1 (.slice b2 l2 e2) d) := hN2
  clear hN2 hb HT2 HB hd
  go_wp2_with fail
  refine Calls.mono HT1.out ?_
  rintro _ w2 ⟨b1, l1, e1, rfl, hN, hb⟩
  replace hR := bx3_next hR hb
  have HB2 : Hid (Below w.heap.size w w2) := below_then HB1.out hb
  have HX : Hid (NatIs B w2 (.slice b1 l1 e1) n) := hN
  have HY : Hid (NatIs B w2 (.slice b2 l2 e2) d) := HN2.out.kept hb
  clear hN hb HT1 HB1 HN2
  go_wp2_with fail
  have hkp := store3 hR (not32_bool _) (not32_slice _ _ _) (not32_slice _ _ _) (.bool neg) (.slice b1 l1 e1) (.slice b2 l2 e2)
  refine bodyPost_ret (v := .agg #[.bool neg, .slice b1 l1 e1, .slice b2 l2 e2]) (by simp [results, Oajg.results118, go_sem, hR]) rfl ⟨_, _, _, _, _, _, rfl, HX.out.kp hkp, HY.out.kp hkp, ?_⟩
  exact ((HB2.out.setCell (Nat.le_refl _) _).setCell (Nat.le_refl _) _).setCell (Nat.le_refl _) _

end Go.Proofs.Ygcoaj
