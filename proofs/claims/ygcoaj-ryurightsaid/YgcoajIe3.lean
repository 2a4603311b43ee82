/-
  PLAIN and WALKS: ieee.Unpack, ieee.Signals.
-/
import Derived.Test.YgcoajIe2
set_option linter.unusedVariables false
set_option linter.unusedSimpArgs false
namespace Go.Proofs.Ygcoaj
open Go.RowKit

def fExp (E M x : Nat) : Nat := x / 2 ^ M % 2 ^ E
def fMan (M x : Nat) : Nat := x % 2 ^ M
def fNeg (E M x : Nat) : Bool := x.testBit (E + M)

def upC (E M x : Nat) : Int :=
  if fExp E M x = 2 ^ E - 1 then (if fMan M x = 0 then 3 else 4) else if fExp E M x = 0 then (if fMan M x = 0 then 0 else 1) else 2
def upN (E M x : Nat) : Bool := if upC E M x = 4 then false else fNeg E M x
def upE (E M x : Nat) : Int :=
  if upC E M x = 1 then 1 - (biasN E : Int) - M - ((M + 1 - bitLen (fMan M x) : Nat) : Int)
  else if upC E M x = 2 then (fExp E M x : Int) - (biasN E : Int) - M else 0
def upM (E M x : Nat) : Nat :=
  if upC E M x = 1 then fMan M x * 2 ^ (M + 1 - bitLen (fMan M x)) else if upC E M x = 2 then fMan M x + 2 ^ M else 0

def upV (E M x : Nat) : Value := .agg #[.bool (upN E M x), .int .i8 (upC E M x), .int .i16 (upE E M x), .int .u64 (upM E M x : Nat)]

theorem and_pow_eq (x k : Nat) : x &&& 2 ^ k = if x.testBit k then 2 ^ k else 0 := by
  apply Nat.eq_of_testBit_eq
  intro i
  rw [Nat.testBit_and, Nat.testBit_two_pow]
  by_cases h : k = i
  · subst h; cases hx : x.testBit k <;> simp [Nat.testBit_two_pow]
  · cases hx : x.testBit k <;> simp [Nat.testBit_two_pow, h]
theorem and_pow_ne (x k : Nat) : (((x &&& 2 ^ k : Nat) : Int) != 0) = x.testBit k := by
  rw [and_pow_eq]
  cases x.testBit k
  · rfl
  · have := pow2_pos k
    simp only [if_true, bne_iff_ne]
    omega

theorem upV_cases (E M x : Nat) (hE : 2 ≤ E) :
    (fExp E M x = 2 ^ E - 1 ∧ fMan M x ≠ 0 ∧ upV E M x = .agg #[.bool false, .int .i8 4, .int .i16 0, .int .u64 0]) ∨
    (fExp E M x = 2 ^ E - 1 ∧ fMan M x = 0 ∧ upV E M x = .agg #[.bool (fNeg E M x), .int .i8 3, .int .i16 0, .int .u64 0]) ∨
    (fExp E M x ≠ 2 ^ E - 1 ∧ fExp E M x = 0 ∧ fMan M x = 0 ∧ upV E M x = .agg #[.bool (fNeg E M x), .int .i8 0, .int .i16 0, .int .u64 0]) ∨
    (fExp E M x ≠ 2 ^ E - 1 ∧ fExp E M x = 0 ∧ fMan M x ≠ 0 ∧ upV E M x = .agg #[.bool (fNeg E M x), .int .i8 1, .int .i16 (1 - (biasN E : Int) - M - ((M + 1 - bitLen (fMan M x) : Nat) : Int)), .int .u64 ((fMan M x * 2 ^ (M + 1 - bitLen (fMan M x)) : Nat) : Int)]) ∨
    (fExp E M x ≠ 2 ^ E - 1 ∧ fExp E M x ≠ 0 ∧ upV E M x = .agg #[.bool (fNeg E M x), .int .i8 2, .int .i16 ((fExp E M x : Int) - (biasN E : Int) - M), .int .u64 ((fMan M x + 2 ^ M : Nat) : Int)]) := by
  by_cases h1 : fExp E M x = 2 ^ E - 1
  · by_cases h2 : fMan M x = 0
    · refine Or.inr (Or.inl ⟨h1, h2, ?_⟩)
      have hC : upC E M x = 3 := by unfold upC; rw [if_pos h1, if_pos h2]
      unfold upV upN upE upM; rw [hC]; rfl
    · refine Or.inl ⟨h1, h2, ?_⟩
      have hC : upC E M x = 4 := by unfold upC; rw [if_pos h1, if_neg h2]
      unfold upV upN upE upM; rw [hC]; rfl
  · by_cases h0 : fExp E M x = 0
    · by_cases h2 : fMan M x = 0
      · refine Or.inr (Or.inr (Or.inl ⟨h1, h0, h2, ?_⟩))
        have hC : upC E M x = 0 := by unfold upC; rw [if_neg h1, if_pos h0, if_pos h2]
        unfold upV upN upE upM; rw [hC]; rfl
      · refine Or.inr (Or.inr (Or.inr (Or.inl ⟨h1, h0, h2, ?_⟩)))
        have hC : upC E M x = 1 := by unfold upC; rw [if_neg h1, if_pos h0, if_neg h2]
        unfold upV upN upE upM; rw [hC]; rfl
    · refine Or.inr (Or.inr (Or.inr (Or.inr ⟨h1, h0, ?_⟩)))
      have hC : upC E M x = 2 := by unfold upC; rw [if_neg h1, if_neg h0]
      unfold upV upN upE upM; rw [hC]; rfl

/-- a box of Parts, as it was made -/
theorem rb_next {W W' : World} {n : Nat} (h : W.cell? ⟨n, 0, none⟩ = some (.bool false) ∧ W.cell? ⟨n, 1, none⟩ = some (.int .i8 0) ∧ W.cell? ⟨n, 2, none⟩ = some (.int .i16 0) ∧ W.cell? ⟨n, 3, none⟩ = some (.int .u64 0) ∧ (∀ o, W.frozen? ⟨n, o, none⟩ = false) ∧ n < W.heap.size) (hb : Below W.heap.size W W') :
    W'.cell? ⟨n, 0, none⟩ = some (.bool false) ∧ W'.cell? ⟨n, 1, none⟩ = some (.int .i8 0) ∧ W'.cell? ⟨n, 2, none⟩ = some (.int .i16 0) ∧ W'.cell? ⟨n, 3, none⟩ = some (.int .u64 0) ∧ (∀ o, W'.frozen? ⟨n, o, none⟩ = false) ∧ n < W'.heap.size :=
  ⟨(hb.cell (p := ⟨n, 0, none⟩) h.2.2.2.2.2).trans h.1, (hb.cell (p := ⟨n, 1, none⟩) h.2.2.2.2.2).trans h.2.1, (hb.cell (p := ⟨n, 2, none⟩) h.2.2.2.2.2).trans h.2.2.1, (hb.cell (p := ⟨n, 3, none⟩) h.2.2.2.2.2).trans h.2.2.2.1,
   fun o => (hb.frozen (p := ⟨n, o, none⟩) h.2.2.2.2.2).trans (h.2.2.2.2.1 o), Nat.lt_of_lt_of_le h.2.2.2.2.2 hb.size⟩
theorem rb_drew {W : World} {n : Nat} (h : W.cell? ⟨n, 0, none⟩ = some (.bool false) ∧ W.cell? ⟨n, 1, none⟩ = some (.int .i8 0) ∧ W.cell? ⟨n, 2, none⟩ = some (.int .i16 0) ∧ W.cell? ⟨n, 3, none⟩ = some (.int .u64 0) ∧ (∀ o, W.frozen? ⟨n, o, none⟩ = false) ∧ n < W.heap.size) :
    W.drew.cell? ⟨n, 0, none⟩ = some (.bool false) ∧ W.drew.cell? ⟨n, 1, none⟩ = some (.int .i8 0) ∧ W.drew.cell? ⟨n, 2, none⟩ = some (.int .i16 0) ∧ W.drew.cell? ⟨n, 3, none⟩ = some (.int .u64 0) ∧ (∀ o, W.drew.frozen? ⟨n, o, none⟩ = false) ∧ n < W.drew.heap.size := h
theorem rb_made (W : World) {m : Nat} (hm : W.heap.size = m) : (W.alloc (.cells #[.bool false, .int .i8 0, .int .i16 0, .int .u64 0] 107)).cell? ⟨m, 0, none⟩ = some (.bool false) ∧ (W.alloc (.cells #[.bool false, .int .i8 0, .int .i16 0, .int .u64 0] 107)).cell? ⟨m, 1, none⟩ = some (.int .i8 0) ∧ (W.alloc (.cells #[.bool false, .int .i8 0, .int .i16 0, .int .u64 0] 107)).cell? ⟨m, 2, none⟩ = some (.int .i16 0) ∧ (W.alloc (.cells #[.bool false, .int .i8 0, .int .i16 0, .int .u64 0] 107)).cell? ⟨m, 3, none⟩ = some (.int .u64 0) ∧ (∀ o, (W.alloc (.cells #[.bool false, .int .i8 0, .int .i16 0, .int .u64 0] 107)).frozen? ⟨m, o, none⟩ = false) ∧ m < (W.alloc (.cells #[.bool false, .int .i8 0, .int .i16 0, .int .u64 0] 107)).heap.size := by
  subst hm
  exact ⟨by simp [go_sem], by simp [go_sem], by simp [go_sem], by simp [go_sem], fun o => by simp [go_sem], by simp⟩

set_option maxRecDepth 100000 in
set_option maxHeartbeats 2000000 in
theorem unpack_ok (E M : Nat) (h : FOk E M) (x : Nat) (hx : x < 18446744073709551616) (w : World) :
    Calls Oajg.prog 74 #[.agg #[.int .u8 (E : Int), .int .u8 (M : Int)], .int .u64 (x : Int)] w fun e w' => e = .returned (upV E M x) ∧ Below w.heap.size w w' := by
  have HO : Hid (∀ w, Calls Oajg.prog 17 #[.agg #[.int .u8 (E : Int), .int .u8 (M : Int)]] w fun e w' => e = .returned (.bool true) ∧ Below w.heap.size w w') := ok_yes h
  have HS : Hid (∀ w, Calls Oajg.prog 105 #[.agg #[.int .u8 (E : Int), .int .u8 (M : Int)]] w fun e w' => e = .returned (.int .u64 ((2 ^ (E + M) : Nat) : Int)) ∧ Below w.heap.size w w') := signBit_ok E M h
  have HBI : Hid (∀ w, Calls Oajg.prog 129 #[.agg #[.int .u8 (E : Int), .int .u8 (M : Int)]] w fun e w' => e = .returned (.int .i16 (biasN E : Nat)) ∧ Below w.heap.size w w') := bias_ok E M h
  have HSUB : Hid (∀ (neg : Bool) (m : Nat) (w : World), m ≠ 0 → m < 2 ^ M → Calls Oajg.prog 128 #[.agg #[.int .u8 (E : Int), .int .u8 (M : Int)], .bool neg, .int .u64 (m : Int)] w fun e w' =>
      e = .returned (.agg #[.bool neg, .int .i8 1, .int .i16 (1 - (biasN E : Int) - M - ((M + 1 - bitLen m : Nat) : Int)), .int .u64 ((m * 2 ^ (M + 1 - bitLen m) : Nat) : Int)]) ∧ Below w.heap.size w w') := fun neg m w h0 h1 => subnormal_ok E M h neg m h0 h1 w
  obtain ⟨a, b, c, d⟩ := h
  have q3 := biasN_le b
  have p1 := pow2_lt64 (E + M) (by omega)
  have p2 := pow2_lt64 E (by omega)
  have p3 := pow2_pos E
  have p4 := pow2_lt64 M (by omega)
  have p5 := pow2_pos M
  have p6 : 2 ^ E ≤ 2048 := by have : 2 ^ E ≤ 2 ^ 11 := Nat.pow_le_pow_right (by decide) b
                               omega
  have r1 : fExp E M x < 2 ^ E := Nat.mod_lt _ p3
  have r2 : fMan M x < 2 ^ M := Nat.mod_lt _ p5
  have k1 : bits .and .u64 (x : Int) ((2 ^ (E + M) : Nat) : Int) = ((x &&& 2 ^ (E + M) : Nat) : Int) := bits_and_u64_nat _ _ hx (by omega)
  have k2 : (((x &&& 2 ^ (E + M) : Nat) : Int) != 0) = fNeg E M x := and_pow_ne x (E + M)
  have k3 : IntKind.u64.wrap (IntKind.u64.wrap (2 ^ E) - 1) = ((2 ^ E - 1 : Nat) : Int) := by
    rw [wpow (by omega)]; exact wrap64' (by omega) (by omega)
  have k4 : bits .and .u64 ((x : Int) / 2 ^ M) ((2 ^ E - 1 : Nat) : Int) = ((fExp E M x : Nat) : Int) := by
    have e : (x : Int) / 2 ^ M = ((x / 2 ^ M : Nat) : Int) := by push_cast; rfl
    rw [e, bits_and_u64_nat _ _ (Nat.lt_of_le_of_lt (Nat.div_le_self _ _) hx) (by omega), Nat.and_two_pow_sub_one_eq_mod]; rfl
  have k5 : IntKind.u64.wrap (((2 ^ M : Nat) : Int) - 1) = ((2 ^ M - 1 : Nat) : Int) := wrap64' (by omega) (by omega)
  have k6 : bits .and .u64 (x : Int) ((2 ^ M - 1 : Nat) : Int) = ((fMan M x : Nat) : Int) := by
    rw [bits_and_u64_nat _ _ hx (by omega), Nat.and_two_pow_sub_one_eq_mod]; rfl
  have k7 : bits .or .u64 ((fMan M x : Nat) : Int) ((2 ^ M : Nat) : Int) = ((fMan M x + 2 ^ M : Nat) : Int) := by
    rw [bits_or_u64_nat _ _ (by omega) (by omega), or_top r2]
  have k8 : IntKind.u64.wrap (2 ^ M) = ((2 ^ M : Nat) : Int) := wpow (by omega)
  have k9 : min M 64 = M := by omega
  have hcase := upV_cases E M x a
  generalize upV E M x = V at hcase ⊢
  clear p1
  generalize x &&& 2 ^ (E + M) = X1 at k1 k2
  generalize fNeg E M x = neg at k2 hcase ⊢
  generalize fExp E M x = xe at r1 k4 hcase ⊢
  generalize fMan M x = xm at r2 k6 k7 hcase ⊢
  generalize biasN E = B at HBI HSUB q3 hcase ⊢
  generalize 2 ^ M - 1 = P0 at k5 k6
  generalize xm + 2 ^ M = R1 at k7 hcase
  generalize 2 ^ M = P1 at k5 k7 k8 p4 p5 r2 HSUB
  have hS0 := sf_next (sf_box w E M) (boxP (w.alloc (.cells #[.int .u8 (E : Int), .int .u8 (M : Int)] 23)))
  have hS := hS0
  have hR := rb_made (w.alloc (.cells #[.int .u8 (E : Int), .int .u8 (M : Int)] 23)) (m := w.heap.size + 1) (by simp)
  clear hS0
  rcases hcase with ⟨h1, h2, rfl⟩ | ⟨h1, h2, rfl⟩ | ⟨h1, h0, h2, rfl⟩ | ⟨h1, h0, h2, rfl⟩ | ⟨h1, h0, rfl⟩
  · have j1 : ((xe : Int) == ((2 ^ E - 1 : Nat) : Int)) = true := by simp [h1]
    have j2 : ((xm : Int) != 0) = true := by simp [h2]
    generalize 2 ^ E - 1 = top at *
    generalize 2 ^ (E + M) = P at *
    try clear h0
    try clear h1
    try clear h2
    clear p2 p3 p4 p5 p6 r1 r2
    go_enter Oajg.func74, Oajg.ntmps74
    go_wp2_with fail
    refine Calls.mono (HO.out _) ?_
    rintro _ w0 ⟨rfl, hb⟩
    replace hS := sf_next hS hb
    replace hR := rb_next hR hb
    clear hb
    go_wp2_with fail
    refine Calls.mono (HS.out _) ?_
    rintro _ w1 ⟨rfl, hb⟩
    replace hS := sf_next hS hb
    replace hR := rb_next hR hb
    clear hb
    go_wp2_with fail
    refine bodyPost_ret (v := .agg #[.bool false, .int .i8 4, .int .i16 0, .int .u64 0]) (by simp [results, Oajg.results74, go_sem, hR]) rfl ⟨rfl, ?_⟩
    exact (sf_store4 hS (by omega)).2.2.2

  · have j1 : ((xe : Int) == ((2 ^ E - 1 : Nat) : Int)) = true := by simp [h1]
    have j2 : ((xm : Int) != 0) = false := by simp [h2]
    generalize 2 ^ E - 1 = top at *
    generalize 2 ^ (E + M) = P at *
    try clear h0
    try clear h1
    try clear h2
    clear p2 p3 p4 p5 p6 r1 r2
    go_enter Oajg.func74, Oajg.ntmps74
    go_wp2_with fail
    refine Calls.mono (HO.out _) ?_
    rintro _ w0 ⟨rfl, hb⟩
    replace hS := sf_next hS hb
    replace hR := rb_next hR hb
    clear hb
    go_wp2_with fail
    refine Calls.mono (HS.out _) ?_
    rintro _ w1 ⟨rfl, hb⟩
    replace hS := sf_next hS hb
    replace hR := rb_next hR hb
    clear hb
    go_wp2_with fail
    refine bodyPost_ret (v := .agg #[.bool neg, .int .i8 3, .int .i16 0, .int .u64 0]) (by simp [results, Oajg.results74, go_sem, hR]) rfl ⟨rfl, ?_⟩
    exact (sf_store4 hS (by omega)).2.2.2

  · have j1 : ((xe : Int) == ((2 ^ E - 1 : Nat) : Int)) = false := by simp; omega
    have j2 : ((xm : Int) == 0) = true := by simp [h2]
    have j3 : ((xe : Int) == 0) = true := by simp [h0]
    generalize 2 ^ E - 1 = top at *
    generalize 2 ^ (E + M) = P at *
    try clear h0
    try clear h1
    try clear h2
    clear p2 p3 p4 p5 p6 r1 r2
    go_enter Oajg.func74, Oajg.ntmps74
    go_wp2_with fail
    refine Calls.mono (HO.out _) ?_
    rintro _ w0 ⟨rfl, hb⟩
    replace hS := sf_next hS hb
    replace hR := rb_next hR hb
    clear hb
    go_wp2_with fail
    refine Calls.mono (HS.out _) ?_
    rintro _ w1 ⟨rfl, hb⟩
    replace hS := sf_next hS hb
    replace hR := rb_next hR hb
    clear hb
    go_wp2_with fail
    refine bodyPost_ret (v := .agg #[.bool neg, .int .i8 0, .int .i16 0, .int .u64 0]) (by simp [results, Oajg.results74, go_sem, hR]) rfl ⟨rfl, ?_⟩
    exact (sf_store4 hS (by omega)).2.2.2

  · have j1 : ((xe : Int) == ((2 ^ E - 1 : Nat) : Int)) = false := by simp; omega
    have j2 : ((xm : Int) == 0) = false := by simp [h2]
    have j3 : ((xe : Int) == 0) = true := by simp [h0]
    have HSU : Hid (∀ w, Calls Oajg.prog 128 #[.agg #[.int .u8 (E : Int), .int .u8 (M : Int)], .bool neg, .int .u64 (xm : Int)] w fun e w' =>
      e = .returned (.agg #[.bool neg, .int .i8 1, .int .i16 (1 - (B : Int) - M - ((M + 1 - bitLen xm : Nat) : Int)), .int .u64 ((xm * 2 ^ (M + 1 - bitLen xm) : Nat) : Int)]) ∧ Below w.heap.size w w') := fun w => HSUB.out neg xm w h2 r2
    clear HSUB
    generalize (1 - (B : Int) - M - ((M + 1 - bitLen xm : Nat) : Int)) = V1 at *
    generalize (xm * 2 ^ (M + 1 - bitLen xm) : Nat) = R2 at *
    generalize 2 ^ E - 1 = top at *
    generalize 2 ^ (E + M) = P at *
    try clear h0
    try clear h1
    try clear h2
    clear p2 p3 p4 p5 p6 r1 r2
    go_enter Oajg.func74, Oajg.ntmps74
    go_wp2_with fail
    refine Calls.mono (HO.out _) ?_
    rintro _ w0 ⟨rfl, hb⟩
    replace hS := sf_next hS hb
    replace hR := rb_next hR hb
    clear hb
    go_wp2_with fail
    refine Calls.mono (HS.out _) ?_
    rintro _ w1 ⟨rfl, hb⟩
    replace hS := sf_next hS hb
    replace hR := rb_next hR hb
    clear hb
    go_wp2_with fail
    refine Calls.mono (HSU.out _) ?_
    rintro _ w2 ⟨rfl, hb⟩
    replace hS := sf_next hS hb
    replace hR := rb_next hR hb
    clear hb
    go_wp2_with fail
    refine bodyPost_ret (v := .agg #[.bool neg, .int .i8 1, .int .i16 V1, .int .u64 (R2 : Int)]) (by simp [results, Oajg.results74, go_sem, hR]) rfl ⟨rfl, ?_⟩
    exact (sf_store4 hS (by omega)).2.2.2

  · have j1 : ((xe : Int) == ((2 ^ E - 1 : Nat) : Int)) = false := by simp; omega
    have j3 : ((xe : Int) == 0) = false := by simp [h0]
    have k10 : IntKind.i16.wrap (IntKind.i16.wrap (IntKind.i16.wrap (xe : Int) - (B : Int)) - IntKind.i16.wrap (M : Int)) = (xe : Int) - (B : Int) - M := by simp only [i16_wrap]; omega
    generalize (xe : Int) - (B : Int) - M = V1 at *
    generalize 2 ^ E - 1 = top at *
    generalize 2 ^ (E + M) = P at *
    try clear h0
    try clear h1
    try clear h2
    clear p2 p3 p4 p5 p6 r1 r2
    go_enter Oajg.func74, Oajg.ntmps74
    go_wp2_with fail
    refine Calls.mono (HO.out _) ?_
    rintro _ w0 ⟨rfl, hb⟩
    replace hS := sf_next hS hb
    replace hR := rb_next hR hb
    clear hb
    go_wp2_with fail
    refine Calls.mono (HS.out _) ?_
    rintro _ w1 ⟨rfl, hb⟩
    replace hS := sf_next hS hb
    replace hR := rb_next hR hb
    clear hb
    go_wp2_with fail
    go_region_held3 (fun W => W.cell? ⟨w.heap.size, 0, none⟩ = some (.int .u8 (E : Int)) ∧ W.cell? ⟨w.heap.size, 1, none⟩ = some (.int .u8 (M : Int)) ∧ w.heap.size < W.heap.size ∧ Below w.heap.size w W) ((first | with_reducible assumption | with_reducible exact sf_drew (by with_reducible assumption) | with_reducible exact sf_store4 (by with_reducible assumption) (by omega))) ((go_at_call 129; refine Calls.mono (HBI.out _) ?_; rintro _ w2 ⟨rfl, hb⟩; have hS1 := sf_next (by with_reducible assumption) hb; have hR1 := rb_next (rb_drew hR) hb; clear hb))
    go_wp2_with fail
    refine bodyPost_ret (v := .agg #[.bool neg, .int .i8 2, .int .i16 V1, .int .u64 (R1 : Int)]) (by simp [results, Oajg.results74, go_sem, hR1]) rfl ⟨rfl, ?_⟩
    exact (sf_store4 hS1 (by omega)).2.2.2


end Go.Proofs.Ygcoaj
