/-
  WALKS: package law's own readings of a pattern.
-/
import Derived.Test.YgcoajXsLaw
set_option linter.unusedVariables false
set_option linter.unusedSimpArgs false
namespace Go.Proofs.Ygcoaj
open Go.RowKit

set_option maxRecDepth 100000 in
set_option maxHeartbeats 1000000 in
theorem expField_ok (E M : Nat) (h : FOk E M) (x : Nat) (hx : x < 18446744073709551616) (w : World) :
    Calls Oajg.prog 70 #[.agg #[.int .u8 (E : Int), .int .u8 (M : Int)], .int .u64 (x : Int)] w fun e w' => e = .returned (.int .u64 (fExp E M x : Nat)) ∧ Below w.heap.size w w' := by
  have hF := sf_box w E M
  obtain ⟨a, b, c, d⟩ := h
  have p2 := pow2_lt64 E (by omega)
  have p3 := pow2_pos E
  have k3 : IntKind.u64.wrap (IntKind.u64.wrap (2 ^ E) - 1) = ((2 ^ E - 1 : Nat) : Int) := by
    rw [wpow (by omega)]; exact wrap64' (by omega) (by omega)
  have k4 : bits .and .u64 ((x : Int) / 2 ^ M) ((2 ^ E - 1 : Nat) : Int) = ((fExp E M x : Nat) : Int) := by
    have e : (x : Int) / 2 ^ M = ((x / 2 ^ M : Nat) : Int) := by push_cast; rfl
    rw [e, bits_and_u64_nat _ _ (Nat.lt_of_le_of_lt (Nat.div_le_self _ _) hx) (by omega), Nat.and_two_pow_sub_one_eq_mod]; rfl
  rw [← k3] at k4
  clear p2 p3 k3
  generalize fExp E M x = X at *
  go_enter Oajg.func70, Oajg.ntmps70
  go_wp2_with fail
  go_ret
  exact ⟨rfl, hF.2.2.2⟩

set_option maxRecDepth 100000 in
set_option maxHeartbeats 1000000 in
theorem fracField_ok (E M : Nat) (h : FOk E M) (x : Nat) (hx : x < 18446744073709551616) (w : World) :
    Calls Oajg.prog 71 #[.agg #[.int .u8 (E : Int), .int .u8 (M : Int)], .int .u64 (x : Int)] w fun e w' => e = .returned (.int .u64 (fMan M x : Nat)) ∧ Below w.heap.size w w' := by
  have hF := sf_box w E M
  obtain ⟨a, b, c, d⟩ := h
  have p2 := pow2_lt64 M (by omega)
  have p3 := pow2_pos M
  have k3 : IntKind.u64.wrap (IntKind.u64.wrap (2 ^ M) - 1) = ((2 ^ M - 1 : Nat) : Int) := by
    rw [wpow (by omega)]; exact wrap64' (by omega) (by omega)
  have k4 : bits .and .u64 (x : Int) ((2 ^ M - 1 : Nat) : Int) = ((fMan M x : Nat) : Int) := by
    rw [bits_and_u64_nat _ _ hx (by omega), Nat.and_two_pow_sub_one_eq_mod]; rfl
  rw [← k3] at k4
  clear p2 p3 k3
  generalize fMan M x = X at *
  go_enter Oajg.func71, Oajg.ntmps71
  go_wp2_with fail
  go_ret
  exact ⟨rfl, hF.2.2.2⟩

set_option maxRecDepth 100000 in
set_option maxHeartbeats 1000000 in
theorem classOf_ok (E M : Nat) (h : FOk E M) (x : Nat) (hx : x < 18446744073709551616) (w : World) :
    Calls Oajg.prog 22 #[.agg #[.int .u8 (E : Int), .int .u8 (M : Int)], .int .u64 (x : Int)] w fun e w' => e = .returned (.int .i8 (upC E M x)) ∧ Below w.heap.size w w' := by
  have hF := sf_box w E M
  have HE : Hid (∀ w, Calls Oajg.prog 70 #[.agg #[.int .u8 (E : Int), .int .u8 (M : Int)], .int .u64 (x : Int)] w fun e w' => e = .returned (.int .u64 (fExp E M x : Nat)) ∧ Below w.heap.size w w') := expField_ok E M h x hx
  have HM : Hid (∀ w, Calls Oajg.prog 71 #[.agg #[.int .u8 (E : Int), .int .u8 (M : Int)], .int .u64 (x : Int)] w fun e w' => e = .returned (.int .u64 (fMan M x : Nat)) ∧ Below w.heap.size w w') := fracField_ok E M h x hx
  have HR : Hid (upC E M x = if fExp E M x = 2 ^ E - 1 then (if fMan M x = 0 then 3 else 4) else if fExp E M x = 0 then (if fMan M x = 0 then 0 else 1) else 2) := rfl
  have p2 := pow2_lt64 E (by have := h.e11; omega)
  have p3 := pow2_pos E
  have k3 : IntKind.u64.wrap (IntKind.u64.wrap (2 ^ E) - 1) = ((2 ^ E - 1 : Nat) : Int) := by
    rw [wpow (by have := h.e11; omega)]; exact wrap64' (by omega) (by omega)
  have he11 := h.e11
  clear p2 p3 h
  generalize fExp E M x = X at *
  generalize fMan M x = Y at *
  obtain ⟨T, hT⟩ : ∃ T, T = 2 ^ E - 1 := ⟨_, rfl⟩
  rw [← hT] at k3 HR
  clear hT
  generalize upC E M x = C at *
  have cases4 : (X = T ∧ Y ≠ 0 ∧ C = 4) ∨ (X = T ∧ Y = 0 ∧ C = 3) ∨ (X ≠ T ∧ X ≠ 0 ∧ C = 2) ∨ (X ≠ T ∧ X = 0 ∧ Y ≠ 0 ∧ C = 1) ∨ (X ≠ T ∧ X = 0 ∧ Y = 0 ∧ C = 0) := by
    have hr := HR.out
    by_cases h1 : X = T
    · rw [if_pos h1] at hr
      by_cases h2 : Y = 0
      · rw [if_pos h2] at hr; exact Or.inr (Or.inl ⟨h1, h2, hr⟩)
      · rw [if_neg h2] at hr; exact Or.inl ⟨h1, h2, hr⟩
    · rw [if_neg h1] at hr
      by_cases h3 : X = 0
      · rw [if_pos h3] at hr
        by_cases h2 : Y = 0
        · rw [if_pos h2] at hr; exact Or.inr (Or.inr (Or.inr (Or.inr ⟨h1, h3, h2, hr⟩)))
        · rw [if_neg h2] at hr; exact Or.inr (Or.inr (Or.inr (Or.inl ⟨h1, h3, h2, hr⟩)))
      · rw [if_neg h3] at hr; exact Or.inr (Or.inr (Or.inl ⟨h1, h3, hr⟩))
  clear HR
  have jjT : ((X : Int) == (T : Int)) = decide (X = T) := by by_cases hh : X = T <;> simp [hh]; omega
  have jj0 : ((X : Int) != 0) = !decide (X = 0) := by
    by_cases hh : X = 0
    · subst hh; rfl
    · rw [decide_eq_false hh]; simp; omega
  have jjY : ((Y : Int) != 0) = !decide (Y = 0) := by
    by_cases hh : Y = 0
    · subst hh; rfl
    · rw [decide_eq_false hh]; simp; omega
  rcases cases4 with ⟨c1, c2, rfl⟩ | ⟨c1, c2, rfl⟩ | ⟨c1, c2, rfl⟩ | ⟨c1, c2, c3, rfl⟩ | ⟨c1, c2, c3, rfl⟩
  all_goals
    (first | rw [decide_eq_true c1] at jjT | rw [decide_eq_false c1] at jjT)
    (try (first | rw [decide_eq_true c2] at jjY | rw [decide_eq_false c2] at jjY))
    (try (first | rw [decide_eq_true c2] at jj0 | rw [decide_eq_false c2] at jj0))
    (try (first | rw [decide_eq_true c3] at jjY | rw [decide_eq_false c3] at jjY))
    simp only [Bool.not_true, Bool.not_false] at jj0 jjY
    clear c1 c2
    go_enter Oajg.func22, Oajg.ntmps22
    go_wp2_with fail
    go_region_held3 (fun W => W.cell? ⟨w.heap.size, 0, none⟩ = some (.int .u8 (E : Int)) ∧ W.cell? ⟨w.heap.size, 1, none⟩ = some (.int .u8 (M : Int)) ∧ w.heap.size < W.heap.size ∧ Below w.heap.size w W)
      ((repeat' (first | with_reducible assumption | with_reducible refine sf_drew ?_)))
      ((first | (go_at_call 70; refine Calls.mono (HE.out _) ?_; rintro _ w1 ⟨rfl, hb⟩; have hF1 := sf_next (by with_reducible assumption) hb; clear hb) | (go_at_call 71; refine Calls.mono (HM.out _) ?_; rintro _ w2 ⟨rfl, hb⟩; have hF2 := sf_next (by with_reducible assumption) hb; clear hb)))
    go_wp2_with fail
    go_ret
    exact ⟨rfl, hF2.2.2.2⟩

set_option maxRecDepth 100000 in
set_option maxHeartbeats 1000000 in
theorem isFinite_ok (E M : Nat) (h : FOk E M) (x : Nat) (hx : x < 18446744073709551616) (w : World) :
    Calls Oajg.prog 79 #[.agg #[.int .u8 (E : Int), .int .u8 (M : Int)], .int .u64 (x : Int)] w fun e w' => e = .returned (.bool (finB E M x)) ∧ Below w.heap.size w w' := by
  have hF := sf_box w E M
  have HE : Hid (∀ w, Calls Oajg.prog 70 #[.agg #[.int .u8 (E : Int), .int .u8 (M : Int)], .int .u64 (x : Int)] w fun e w' => e = .returned (.int .u64 (fExp E M x : Nat)) ∧ Below w.heap.size w w') := expField_ok E M h x hx
  have p2 := pow2_lt64 E (by have := h.e11; omega)
  have p3 := pow2_pos E
  have k3 : IntKind.u64.wrap (IntKind.u64.wrap (2 ^ E) - 1) = ((2 ^ E - 1 : Nat) : Int) := by
    rw [wpow (by have := h.e11; omega)]; exact wrap64' (by omega) (by omega)
  have he11 := h.e11
  have k4 : ((fExp E M x : Int) != IntKind.u64.wrap (IntKind.u64.wrap (2 ^ E) - 1)) = finB E M x := by
    rw [k3]
    unfold finB
    by_cases hh : fExp E M x = 2 ^ E - 1
    · rw [hh, bne_self_eq_false, decide_eq_false (fun h => h rfl)]
    · rw [decide_eq_true hh]
      exact bne_iff_ne.2 (by omega)
  clear p2 p3 h k3
  generalize finB E M x = R at *
  generalize fExp E M x = X at *
  go_enter Oajg.func79, Oajg.ntmps79
  go_wp2_with fail
  go_region_held3 (fun W => W.cell? ⟨w.heap.size, 0, none⟩ = some (.int .u8 (E : Int)) ∧ W.cell? ⟨w.heap.size, 1, none⟩ = some (.int .u8 (M : Int)) ∧ w.heap.size < W.heap.size ∧ Below w.heap.size w W)
    ((repeat' (first | with_reducible assumption | with_reducible refine sf_drew ?_)))
    ((go_at_call 70; refine Calls.mono (HE.out _) ?_; rintro _ w1 ⟨rfl, hb⟩; have hF1 := sf_next (by with_reducible assumption) hb; clear hb))
  go_wp2_with fail
  go_ret
  exact ⟨by first | rfl | (rw [k4]), hF1.2.2.2⟩

set_option maxRecDepth 100000 in
set_option maxHeartbeats 1000000 in
theorem biasOf_ok (E M : Nat) (h : FOk E M) (w : World) :
    Calls Oajg.prog 80 #[.agg #[.int .u8 (E : Int), .int .u8 (M : Int)]] w fun e w' => e = .returned (.int .i64 (biasN E : Nat)) ∧ Below w.heap.size w w' := by
  have hF := sf_box w E M
  have hb := biasN_le h.e11
  have he11 := h.e11
  have he2 := h.e2
  obtain ⟨m1, hm1⟩ : ∃ m1, m1 = E - 1 := ⟨_, rfl⟩
  have km : (E : Int) - 1 = (m1 : Int) := by omega
  have hmb : m1 ≤ 10 := by omega
  have hP : 2 ^ m1 ≤ 2 ^ 10 := Nat.pow_le_pow_right (by decide) hmb
  have kP : IntKind.i64.wrap (2 ^ m1) = (biasN E : Int) + 1 := by
    have e1 : ((2 ^ m1 : Nat) : Int) = (2 : Int) ^ m1 := by push_cast; rfl
    have e2 : biasN E = 2 ^ m1 - 1 := by rw [hm1]; rfl
    have e3 := pp m1
    rw [← e1, IntKind.wrap_i64, e2]; omega
  clear hm1 h hP
  generalize biasN E = Z at *
  go_enter Oajg.func80, Oajg.ntmps80
  go_wp2_with fail
  go_ret
  exact ⟨ret_i64 (by omega), hF.2.2.2⟩

end Go.Proofs.Ygcoaj
