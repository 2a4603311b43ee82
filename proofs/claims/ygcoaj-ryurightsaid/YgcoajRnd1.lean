/-
  WALKS: exact.floor, exact.raised, exact.zero, emin, emax, overflow.
-/
import Derived.Test.YgcoajRnd0
set_option linter.unusedVariables false
set_option linter.unusedSimpArgs false
namespace Go.Proofs.Ygcoaj
open Go.RowKit

/-! ### floor -/
/-- half's side: how twice the rest stands to the divisor -/
def hfX (n m : Nat) : Int := cmpZ (n % m * 2) m
def smX (n m : Nat) : Bool := !(n % m == 0)

theorem store2 {W : World} {n : Nat} {u0 u1 : Value} (h : W.cell? ⟨n, 0, none⟩ = some u0 ∧ W.cell? ⟨n, 1, none⟩ = some u1 ∧ (∀ o, W.frozen? ⟨n, o, none⟩ = false) ∧ n < W.heap.size)
    (h0 : Not32 u0) (h1 : Not32 u1) (x0 x1 : Value) : Kp W ((W.setCell ⟨n, 0, none⟩ x0).setCell ⟨n, 1, none⟩ x1) := by
  refine Kp.setCell (Kp.setCell (Kp.refl W) h.1 h0) (u := u1) ?_ h1
  rw [other _ _ (by simp)]; exact h.2.1

set_option maxRecDepth 100000 in
set_option maxHeartbeats 1000000 in
theorem floor_ok (B n m : Nat) (a1 a2 : Option Addr) (k1 c1 k2 c2 : Nat) (w : World) (h1 : NatIs B w (.slice a1 k1 c1) n) (h2 : NatIs B w (.slice a2 k2 c2) m) (hB : B ≤ 10000000) (hm : m ≠ 0) :
    Calls Oajg.prog 170 #[.slice a1 k1 c1, .slice a2 k2 c2] w fun e w' => ∃ b1 l1 e1, e = .returned (.tuple #[.slice b1 l1 e1, .agg #[.int .i8 (hfX n m), .bool (smX n m)]]) ∧ NatIs (B + 2) w' (.slice b1 l1 e1) (n / m) ∧ Below w.heap.size w w' := by
  have hR := bx2_made w (m := w.heap.size) (.int .i8 0) (.bool false) 152 rfl
  have HB0 : Hid (Below w.heap.size w (w.alloc (.cells #[.int .i8 0, .bool false] 152))) := (Below.refl _ _).alloc (Nat.le_refl _) _
  have HD : Hid (Calls Oajg.prog 113 #[.slice a1 k1 c1, .slice a2 k2 c2] (w.alloc (.cells #[.int .i8 0, .bool false] 152)) fun e w' => ∃ ad1 k1 c1 ad2 k2 c2, e = .returned (.tuple #[.slice ad1 k1 c1, .slice ad2 k2 c2, .bool true]) ∧ NatIs (B + 2) w' (.slice ad1 k1 c1) (n / m) ∧ NatIs (B + 2) w' (.slice ad2 k2 c2) (n % m) ∧ Below (w.alloc (.cells #[.int .i8 0, .bool false] 152)).heap.size (w.alloc (.cells #[.int .i8 0, .bool false] 152)) w') :=
    divMod_ok B B _ _ n m _ (h1.kept HB0.out) (h2.kept HB0.out) (by omega) (by omega) hm
  have HN2 : Hid (NatIs B w (.slice a2 k2 c2) m) := h2
  have hnn := neq_nil
  clear h1 h2
  go_enter Oajg.func170, Oajg.ntmps170
  go_wp2_with fail
  refine Calls.mono HD.out ?_
  rintro _ w1 ⟨b1, l1, e1, b2, l2, e2, rfl, hq, hr, hb⟩
  replace hR := bx2_next hR hb
  have HB1 : Hid (Below w.heap.size w w1) := below_then HB0.out hb
  have HQ1 : Hid (NatIs (B + 2) w1 (.slice b1 l1 e1) (n / m)) := hq
  have HS : Hid (Calls Oajg.prog 78 #[.slice b2 l2 e2, .int .u16 1] w1 fun e w' => ∃ ad k c, e = .returned (.slice ad k c) ∧ NatIs (B + 2 + 2048) w' (.slice ad k c) (n % m * 2) ∧ Below w1.heap.size w1 w') := shaped (shl_any (B + 2) _ (n % m) 1 w1 hr (by omega) (by omega) (by omega))
  have HNN := hr.none_eq
  clear hq hr hb HD HB0
  go_wp2_with fail
  refine Calls.mono HS.out ?_
  rintro _ w2 ⟨b3, l3, e3, rfl, hs, hb⟩
  replace hR := bx2_next hR hb
  have HB2 : Hid (Below w.heap.size w w2) := below_then HB1.out hb
  have HQ2 : Hid (NatIs (B + 2) w2 (.slice b1 l1 e1) (n / m)) := HQ1.out.kept hb
  have HC : Hid (Calls Oajg.prog 82 #[.slice b3 l3 e3, .slice a2 k2 c2] w2 fun e w' => e = .returned (.int .i8 (hfX n m)) ∧ Below w2.heap.size w2 w') := cmp_any (B + 2 + 2048) B _ _ _ _ w2 hs (HN2.out.kept HB2.out) (by omega) (by omega)
  clear hs hb HS HB1 HQ1
  go_wp2_with fail
  refine Calls.mono HC.out ?_
  rintro _ w3 ⟨rfl, hb⟩
  replace hR := bx2_next hR hb
  have HB3 : Hid (Below w.heap.size w w3) := below_then HB2.out hb
  have HQ3 : Hid (NatIs (B + 2) w3 (.slice b1 l1 e1) (n / m)) := HQ2.out.kept hb
  clear hb HC HB2 HQ2
  obtain ⟨SM, HSM⟩ : ∃ SM, Hid (smX n m = SM) := ⟨_, rfl⟩
  obtain ⟨HF, HHF⟩ : ∃ HF, Hid (hfX n m = HF) := ⟨_, rfl⟩
  rw [HHF.out]
  have hsm : (!b2.isNone) = SM := by rw [HNN, ← HSM.out]; rfl
  clear HNN
  go_wp2_with fail
  have hkp := store2 hR (fun x h => nomatch h) (not32_bool _) (.int .i8 HF) (.bool SM)
  refine bodyPost_ret (v := .tuple #[.slice b1 l1 e1, .agg #[.int .i8 HF, .bool SM]]) (by simp [results, Oajg.results170, go_sem, hR]) rfl ⟨_, _, _, by rw [HSM.out, HHF.out], HQ3.out.kp hkp, ?_⟩
  exact (HB3.out.setCell (Nat.le_refl _) _).setCell (Nat.le_refl _) _

/-! ### zero, emin, emax -/
set_option maxRecDepth 100000 in
set_option maxHeartbeats 1000000 in
theorem zeroX_ok (E M : Nat) (h : FOk E M) (neg : Bool) (w : World) :
    Calls Oajg.prog 119 #[.agg #[.int .u8 (E : Int), .int .u8 (M : Int)], .bool neg] w fun e w' => e = .returned (.int .u64 (sgnd E M neg 0 : Nat)) ∧ Below w.heap.size w w' := by
  have hS := sf_box w E M
  have HSB : Hid (∀ w, Calls Oajg.prog 105 #[.agg #[.int .u8 (E : Int), .int .u8 (M : Int)]] w fun e w' => e = .returned (.int .u64 ((2 ^ (E + M) : Nat) : Int)) ∧ Below w.heap.size w w') := signBit_ok E M h
  cases neg with
  | false =>
    go_enter Oajg.func119, Oajg.ntmps119
    go_wp2_with fail
    go_ret
    exact ⟨rfl, hS.2.2.2⟩
  | true =>
    have HRES : Hid (sgnd E M true 0 = 2 ^ (E + M)) := by show _ = _; simp [sgnd]
    rw [HRES.out]
    generalize 2 ^ (E + M) = Z at *
    clear h
    go_enter Oajg.func119, Oajg.ntmps119
    go_wp2_with fail
    refine Calls.mono (HSB.out _) ?_
    rintro _ w1 ⟨rfl, hb⟩
    replace hS := sf_next hS hb
    clear hb
    go_wp2_with fail
    go_ret
    exact ⟨rfl, hS.2.2.2⟩

set_option maxRecDepth 100000 in
set_option maxHeartbeats 1000000 in
theorem zeroS_ok (E M : Nat) (h : FOk E M) (neg : Bool) (w : World) :
    Calls Oajg.prog 132 #[.agg #[.int .u8 (E : Int), .int .u8 (M : Int)], .bool neg] w fun e w' => e = .returned (.int .u64 (sgnd E M neg 0 : Nat)) ∧ Below w.heap.size w w' := by
  have hS := sf_box w E M
  have HSB : Hid (∀ w, Calls Oajg.prog 105 #[.agg #[.int .u8 (E : Int), .int .u8 (M : Int)]] w fun e w' => e = .returned (.int .u64 ((2 ^ (E + M) : Nat) : Int)) ∧ Below w.heap.size w w') := signBit_ok E M h
  cases neg with
  | false =>
    go_enter Oajg.func132, Oajg.ntmps132
    go_wp2_with fail
    go_ret
    exact ⟨rfl, hS.2.2.2⟩
  | true =>
    have HRES : Hid (sgnd E M true 0 = 2 ^ (E + M)) := by show _ = _; simp [sgnd]
    rw [HRES.out]
    generalize 2 ^ (E + M) = Z at *
    clear h
    go_enter Oajg.func132, Oajg.ntmps132
    go_wp2_with fail
    refine Calls.mono (HSB.out _) ?_
    rintro _ w1 ⟨rfl, hb⟩
    replace hS := sf_next hS hb
    clear hb
    go_wp2_with fail
    go_ret
    exact ⟨rfl, hS.2.2.2⟩

set_option maxRecDepth 100000 in
set_option maxHeartbeats 1000000 in
theorem emin_ok (E M : Nat) (h : FOk E M) (w : World) :
    Calls Oajg.prog 120 #[.agg #[.int .u8 (E : Int), .int .u8 (M : Int)]] w fun e w' => e = .returned (.int .i64 (1 - (biasN E : Int))) ∧ Below w.heap.size w w' := by
  have hS := sf_box w E M
  have HSB : Hid (∀ w, Calls Oajg.prog 129 #[.agg #[.int .u8 (E : Int), .int .u8 (M : Int)]] w fun e w' => e = .returned (.int .i16 (biasN E : Nat)) ∧ Below w.heap.size w w') := bias_ok E M h
  have hb := biasN_le h.e11
  clear h
  generalize biasN E = Z at *
  go_enter Oajg.func120, Oajg.ntmps120
  go_wp2_with fail
  refine Calls.mono (HSB.out _) ?_
  rintro _ w1 ⟨rfl, hb⟩
  replace hS := sf_next hS hb
  clear hb
  go_wp2_with fail
  go_ret
  exact ⟨rfl, hS.2.2.2⟩

set_option maxRecDepth 100000 in
set_option maxHeartbeats 1000000 in
theorem emax_ok (E M : Nat) (h : FOk E M) (w : World) :
    Calls Oajg.prog 121 #[.agg #[.int .u8 (E : Int), .int .u8 (M : Int)]] w fun e w' => e = .returned (.int .i64 (biasN E : Nat)) ∧ Below w.heap.size w w' := by
  have hS := sf_box w E M
  have HSB : Hid (∀ w, Calls Oajg.prog 129 #[.agg #[.int .u8 (E : Int), .int .u8 (M : Int)]] w fun e w' => e = .returned (.int .i16 (biasN E : Nat)) ∧ Below w.heap.size w w') := bias_ok E M h
  have hb := biasN_le h.e11
  clear h
  generalize biasN E = Z at *
  go_enter Oajg.func121, Oajg.ntmps121
  go_wp2_with fail
  refine Calls.mono (HSB.out _) ?_
  rintro _ w1 ⟨rfl, hb⟩
  replace hS := sf_next hS hb
  clear hb
  go_wp2_with fail
  go_ret
  exact ⟨rfl, hS.2.2.2⟩

/-! ### overflow -/
def infN (E M : Nat) : Nat := (2 ^ E - 1) * 2 ^ M
/-- whether beyond the greatest finite value stands the greatest finite value -/
def ovB (mo : Nat) (neg : Bool) : Bool := decide (mo = 2) || (decide (mo = 3) && neg) || (decide (mo = 4) && !neg)

def ovN (E M mo : Nat) (neg : Bool) : Nat := if ovB mo neg then sgnd E M neg (infN E M - 1) else sgnd E M neg (infN E M)

set_option maxRecDepth 100000 in
set_option maxHeartbeats 1000000 in
theorem overflowX_ok (E M : Nat) (h : FOk E M) (mo : Nat) (neg : Bool) (w : World) :
    Calls Oajg.prog 122 #[.agg #[.int .u8 (E : Int), .int .u8 (M : Int)], .int .u8 (mo : Int), .bool neg] w fun e w' => e = .returned (.tuple #[.int .u64 (ovN E M mo neg : Nat), .int .u8 20]) ∧ Below w.heap.size w w' := by
  have hS := sf_box w E M
  have HM : Hid (∀ w, Calls Oajg.prog 169 #[.agg #[.int .u8 (E : Int), .int .u8 (M : Int)], .bool neg] w fun e w' => e = .returned (.int .u64 (sgnd E M neg (infN E M - 1) : Nat)) ∧ Below w.heap.size w w') := maxFinite_ok E M h neg
  have HI : Hid (∀ w, Calls Oajg.prog 84 #[.agg #[.int .u8 (E : Int), .int .u8 (M : Int)], .bool neg] w fun e w' => e = .returned (.int .u64 (sgnd E M neg (infN E M) : Nat)) ∧ Below w.heap.size w w') := inf_ok E M h neg
  clear h
  cases hov : ovB mo neg with
  | true =>
    have HR : Hid (ovN E M mo neg = sgnd E M neg (infN E M - 1)) := by show _ = _; unfold ovN; rw [hov, if_pos rfl]
    rw [HR.out]
    generalize sgnd E M neg (infN E M - 1) = Z at *
    have hc : mo = 2 ∨ (mo = 3 ∧ neg = true) ∨ (mo = 4 ∧ neg = false) := by
      unfold ovB at hov
      simp only [Bool.or_eq_true, Bool.and_eq_true, decide_eq_true_eq, Bool.not_eq_true'] at hov
      rcases hov with (h | h) | h
      · exact Or.inl h
      · exact Or.inr (Or.inl h)
      · exact Or.inr (Or.inr h)
    clear hov HR
    rcases hc with rfl | ⟨rfl, rfl⟩ | ⟨rfl, rfl⟩
    all_goals
      go_enter Oajg.func122, Oajg.ntmps122
      go_wp2_with fail
      refine Calls.mono (HM.out _) ?_
      rintro _ w1 ⟨rfl, hb⟩
      replace hS := sf_next hS hb
      clear hb
      go_wp2_with fail
      go_ret2
      exact ⟨rfl, hS.2.2.2⟩
  | false =>
    have HR : Hid (ovN E M mo neg = sgnd E M neg (infN E M)) := by show _ = _; unfold ovN; rw [hov, if_neg (by decide)]
    rw [HR.out]
    generalize sgnd E M neg (infN E M) = Z at *
    unfold ovB at hov
    simp only [Bool.or_eq_false_iff, Bool.and_eq_false_iff, decide_eq_false_iff_not, Bool.not_eq_false'] at hov
    obtain ⟨⟨h2, h3⟩, h4⟩ := hov
    have j2 : ((mo : Int) == 2) = false := by simp; omega
    clear h2
    cases neg with
    | true =>
      have j3 : ((mo : Int) == 3) = false := by rcases h3 with h | h; (simp; omega); cases h
      clear h3 h4 HR
      by_cases h5 : mo = 4
      · subst h5
        go_enter Oajg.func122, Oajg.ntmps122
        go_wp2_with fail
        refine Calls.mono (HI.out _) ?_
        rintro _ w1 ⟨rfl, hb⟩
        replace hS := sf_next hS hb
        clear hb
        go_wp2_with fail
        go_ret2
        exact ⟨rfl, hS.2.2.2⟩
      · have j4 : ((mo : Int) == 4) = false := by simp; omega
        clear h5
        go_enter Oajg.func122, Oajg.ntmps122
        go_wp2_with fail
        refine Calls.mono (HI.out _) ?_
        rintro _ w1 ⟨rfl, hb⟩
        replace hS := sf_next hS hb
        clear hb
        go_wp2_with fail
        go_ret2
        exact ⟨rfl, hS.2.2.2⟩
    | false =>
      have j4 : ((mo : Int) == 4) = false := by rcases h4 with h | h; (simp; omega); cases h
      clear h3 h4 HR
      by_cases h5 : mo = 3
      · subst h5
        go_enter Oajg.func122, Oajg.ntmps122
        go_wp2_with fail
        refine Calls.mono (HI.out _) ?_
        rintro _ w1 ⟨rfl, hb⟩
        replace hS := sf_next hS hb
        clear hb
        go_wp2_with fail
        go_ret2
        exact ⟨rfl, hS.2.2.2⟩
      · have j3 : ((mo : Int) == 3) = false := by simp; omega
        clear h5
        go_enter Oajg.func122, Oajg.ntmps122
        go_wp2_with fail
        refine Calls.mono (HI.out _) ?_
        rintro _ w1 ⟨rfl, hb⟩
        replace hS := sf_next hS hb
        clear hb
        go_wp2_with fail
        go_ret2
        exact ⟨rfl, hS.2.2.2⟩

set_option maxRecDepth 100000 in
set_option maxHeartbeats 1000000 in
theorem overflowS_ok (E M : Nat) (h : FOk E M) (mo : Nat) (neg : Bool) (w : World) :
    Calls Oajg.prog 134 #[.agg #[.int .u8 (E : Int), .int .u8 (M : Int)], .int .u8 (mo : Int), .bool neg] w fun e w' => e = .returned (.tuple #[.int .u64 (ovN E M mo neg : Nat), .int .u8 20]) ∧ Below w.heap.size w w' := by
  have hS := sf_box w E M
  have HM : Hid (∀ w, Calls Oajg.prog 169 #[.agg #[.int .u8 (E : Int), .int .u8 (M : Int)], .bool neg] w fun e w' => e = .returned (.int .u64 (sgnd E M neg (infN E M - 1) : Nat)) ∧ Below w.heap.size w w') := maxFinite_ok E M h neg
  have HI : Hid (∀ w, Calls Oajg.prog 84 #[.agg #[.int .u8 (E : Int), .int .u8 (M : Int)], .bool neg] w fun e w' => e = .returned (.int .u64 (sgnd E M neg (infN E M) : Nat)) ∧ Below w.heap.size w w') := inf_ok E M h neg
  clear h
  cases hov : ovB mo neg with
  | true =>
    have HR : Hid (ovN E M mo neg = sgnd E M neg (infN E M - 1)) := by show _ = _; unfold ovN; rw [hov, if_pos rfl]
    rw [HR.out]
    generalize sgnd E M neg (infN E M - 1) = Z at *
    have hc : mo = 2 ∨ (mo = 3 ∧ neg = true) ∨ (mo = 4 ∧ neg = false) := by
      unfold ovB at hov
      simp only [Bool.or_eq_true, Bool.and_eq_true, decide_eq_true_eq, Bool.not_eq_true'] at hov
      rcases hov with (h | h) | h
      · exact Or.inl h
      · exact Or.inr (Or.inl h)
      · exact Or.inr (Or.inr h)
    clear hov HR
    rcases hc with rfl | ⟨rfl, rfl⟩ | ⟨rfl, rfl⟩
    all_goals
      go_enter Oajg.func134, Oajg.ntmps134
      go_wp2_with fail
      refine Calls.mono (HM.out _) ?_
      rintro _ w1 ⟨rfl, hb⟩
      replace hS := sf_next hS hb
      clear hb
      go_wp2_with fail
      go_ret2
      exact ⟨rfl, hS.2.2.2⟩
  | false =>
    have HR : Hid (ovN E M mo neg = sgnd E M neg (infN E M)) := by show _ = _; unfold ovN; rw [hov, if_neg (by decide)]
    rw [HR.out]
    generalize sgnd E M neg (infN E M) = Z at *
    unfold ovB at hov
    simp only [Bool.or_eq_false_iff, Bool.and_eq_false_iff, decide_eq_false_iff_not, Bool.not_eq_false'] at hov
    obtain ⟨⟨h2, h3⟩, h4⟩ := hov
    have j2 : ((mo : Int) == 2) = false := by simp; omega
    clear h2
    cases neg with
    | true =>
      have j3 : ((mo : Int) == 3) = false := by rcases h3 with h | h; (simp; omega); cases h
      clear h3 h4 HR
      by_cases h5 : mo = 4
      · subst h5
        go_enter Oajg.func134, Oajg.ntmps134
        go_wp2_with fail
        refine Calls.mono (HI.out _) ?_
        rintro _ w1 ⟨rfl, hb⟩
        replace hS := sf_next hS hb
        clear hb
        go_wp2_with fail
        go_ret2
        exact ⟨rfl, hS.2.2.2⟩
      · have j4 : ((mo : Int) == 4) = false := by simp; omega
        clear h5
        go_enter Oajg.func134, Oajg.ntmps134
        go_wp2_with fail
        refine Calls.mono (HI.out _) ?_
        rintro _ w1 ⟨rfl, hb⟩
        replace hS := sf_next hS hb
        clear hb
        go_wp2_with fail
        go_ret2
        exact ⟨rfl, hS.2.2.2⟩
    | false =>
      have j4 : ((mo : Int) == 4) = false := by rcases h4 with h | h; (simp; omega); cases h
      clear h3 h4 HR
      by_cases h5 : mo = 3
      · subst h5
        go_enter Oajg.func134, Oajg.ntmps134
        go_wp2_with fail
        refine Calls.mono (HI.out _) ?_
        rintro _ w1 ⟨rfl, hb⟩
        replace hS := sf_next hS hb
        clear hb
        go_wp2_with fail
        go_ret2
        exact ⟨rfl, hS.2.2.2⟩
      · have j3 : ((mo : Int) == 3) = false := by simp; omega
        clear h5
        go_enter Oajg.func134, Oajg.ntmps134
        go_wp2_with fail
        refine Calls.mono (HI.out _) ?_
        rintro _ w1 ⟨rfl, hb⟩
        replace hS := sf_next hS hb
        clear hb
        go_wp2_with fail
        go_ret2
        exact ⟨rfl, hS.2.2.2⟩

end Go.Proofs.Ygcoaj
