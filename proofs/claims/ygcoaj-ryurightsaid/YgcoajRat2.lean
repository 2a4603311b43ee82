/-
  PLAIN and WALKS: what Unpack answers, in numbers; exact.Value for every class; exact.open.
-/
import Derived.Test.YgcoajRat1
set_option linter.unusedVariables false
set_option linter.unusedSimpArgs false
namespace Go.Proofs.Ygcoaj
open Go.RowKit

theorem upC_range (E M x : Nat) : upC E M x = 0 ∨ upC E M x = 1 ∨ upC E M x = 2 ∨ upC E M x = 3 ∨ upC E M x = 4 := by
  unfold upC; split <;> split <;> (try split) <;> simp

theorem upM_lt (E M x : Nat) (h : M ≤ 62) : upM E M x < 18446744073709551616 := by
  unfold upM
  have hm : fMan M x < 2 ^ M := Nat.mod_lt _ (pow2_pos M)
  have p := pow2_lt64 (M + 1) (by omega)
  have q : 2 ^ (M + 1) = 2 * 2 ^ M := by rw [Nat.pow_succ, Nat.mul_comm]
  split
  · have hL : bitLen (fMan M x) ≤ M := bitLen_le_of_lt hm
    have h1 : fMan M x * 2 ^ (M + 1 - bitLen (fMan M x)) < 2 ^ bitLen (fMan M x) * 2 ^ (M + 1 - bitLen (fMan M x)) := Nat.mul_lt_mul_of_pos_right (bitLen_lt _) (pow2_pos _)
    rw [← Nat.pow_add, show bitLen (fMan M x) + (M + 1 - bitLen (fMan M x)) = M + 1 by omega] at h1
    omega
  · split
    · omega
    · decide

theorem upE_range {E M : Nat} (h : FOk E M) (x : Nat) : -1200 ≤ upE E M x ∧ upE E M x ≤ 2048 := by
  have a := biasN_le h.e11
  have b := h.m52
  have c : fExp E M x < 2 ^ E := Nat.mod_lt _ (pow2_pos E)
  have d : 2 ^ E ≤ 2 ^ 11 := Nat.pow_le_pow_right (by decide) h.e11
  unfold upE
  split
  · omega
  · split
    · omega
    · omega

theorem up_spec {E M x : Nat} (h : upC E M x = 3 ∨ upC E M x = 4) : upM E M x = 0 ∧ upE E M x = 0 := by
  unfold upM upE
  rcases h with h | h <;> rw [h] <;> exact ⟨rfl, rfl⟩

/-- the sign that Value gives: none for an infinity -/
def vN (E M x : Nat) : Bool := if upC E M x = 3 then false else upN E M x
def vNum (E M x : Nat) : Nat := upM E M x * 2 ^ (upE E M x).toNat
def vDen (E M x : Nat) : Nat := 2 ^ (-upE E M x).toNat

theorem value_ok (E M : Nat) (h : FOk E M) (x : Nat) (hx : x < 18446744073709551616) (w : World) :
    Calls Oajg.prog 26 #[.agg #[.int .u8 (E : Int), .int .u8 (M : Int)], .int .u64 (x : Int)] w fun e w' => ∃ a1 k1 c1 a2 k2 c2,
      e = .returned (.tuple #[.agg #[.bool (vN E M x), .slice a1 k1 c1, .slice a2 k2 c2], .int .i8 (upC E M x)]) ∧ NatIs 2050 w' (.slice a1 k1 c1) (vNum E M x) ∧ NatIs 2050 w' (.slice a2 k2 c2) (vDen E M x) ∧ Below w.heap.size w w' := by
  by_cases hC : upC E M x = 3 ∨ upC E M x = 4
  · refine (value_spec E M h x hx hC w).mono ?_
    rintro e w' ⟨a2, k2, c2, rfl, hN, hb⟩
    obtain ⟨e1, e2⟩ := up_spec hC
    have e3 : vN E M x = false := by
      unfold vN upN
      rcases hC with hC | hC <;> rw [hC] <;> rfl
    refine ⟨none, 0, 0, a2, k2, c2, by rw [e3], ?_, ?_, hb⟩
    · unfold vNum; rw [e1, Nat.zero_mul]; exact natIs_nil _ _
    · unfold vDen; rw [e2]; exact hN.mono (by decide)
  · have h3 : upC E M x ≠ 3 := fun e => hC (Or.inl e)
    have h4 : upC E M x ≠ 4 := fun e => hC (Or.inr e)
    have r := upE_range h x
    have e3 : vN E M x = upN E M x := by unfold vN; rw [if_neg h3]
    rw [e3]
    exact value_fin E M h x hx h3 h4 (by omega) (by omega) (upM_lt E M x (by have := h.m52; omega)) w

theorem sfb3_next {w W W' : World} {b E M n : Nat} {u0 u1 u2 : Value} (h : (W.cell? ⟨b, 0, none⟩ = some (.int .u8 (E : Int)) ∧ W.cell? ⟨b, 1, none⟩ = some (.int .u8 (M : Int)) ∧ b < W.heap.size ∧ Below w.heap.size w W) ∧ (W.cell? ⟨n, 0, none⟩ = some u0 ∧ W.cell? ⟨n, 1, none⟩ = some u1 ∧ W.cell? ⟨n, 2, none⟩ = some u2 ∧ (∀ o, W.frozen? ⟨n, o, none⟩ = false) ∧ n < W.heap.size)) (hb : Below W.heap.size W W') :
    (W'.cell? ⟨b, 0, none⟩ = some (.int .u8 (E : Int)) ∧ W'.cell? ⟨b, 1, none⟩ = some (.int .u8 (M : Int)) ∧ b < W'.heap.size ∧ Below w.heap.size w W') ∧ (W'.cell? ⟨n, 0, none⟩ = some u0 ∧ W'.cell? ⟨n, 1, none⟩ = some u1 ∧ W'.cell? ⟨n, 2, none⟩ = some u2 ∧ (∀ o, W'.frozen? ⟨n, o, none⟩ = false) ∧ n < W'.heap.size) := ⟨sf_next h.1 hb, bx3_next h.2 hb⟩
theorem sfb3_drew {w W : World} {b E M n : Nat} {u0 u1 u2 : Value} (h : (W.cell? ⟨b, 0, none⟩ = some (.int .u8 (E : Int)) ∧ W.cell? ⟨b, 1, none⟩ = some (.int .u8 (M : Int)) ∧ b < W.heap.size ∧ Below w.heap.size w W) ∧ (W.cell? ⟨n, 0, none⟩ = some u0 ∧ W.cell? ⟨n, 1, none⟩ = some u1 ∧ W.cell? ⟨n, 2, none⟩ = some u2 ∧ (∀ o, W.frozen? ⟨n, o, none⟩ = false) ∧ n < W.heap.size)) :
    (W.drew.cell? ⟨b, 0, none⟩ = some (.int .u8 (E : Int)) ∧ W.drew.cell? ⟨b, 1, none⟩ = some (.int .u8 (M : Int)) ∧ b < W.drew.heap.size ∧ Below w.heap.size w W.drew) ∧ (W.drew.cell? ⟨n, 0, none⟩ = some u0 ∧ W.drew.cell? ⟨n, 1, none⟩ = some u1 ∧ W.drew.cell? ⟨n, 2, none⟩ = some u2 ∧ (∀ o, W.drew.frozen? ⟨n, o, none⟩ = false) ∧ n < W.drew.heap.size) := ⟨sf_drew h.1, bx3_drew h.2⟩
theorem sfb3_store {w W : World} {b E M n : Nat} {u0 u1 u2 : Value} (h : (W.cell? ⟨b, 0, none⟩ = some (.int .u8 (E : Int)) ∧ W.cell? ⟨b, 1, none⟩ = some (.int .u8 (M : Int)) ∧ b < W.heap.size ∧ Below w.heap.size w W) ∧ (W.cell? ⟨n, 0, none⟩ = some u0 ∧ W.cell? ⟨n, 1, none⟩ = some u1 ∧ W.cell? ⟨n, 2, none⟩ = some u2 ∧ (∀ o, W.frozen? ⟨n, o, none⟩ = false) ∧ n < W.heap.size)) {p : Addr} {u : Value} (hp : w.heap.size ≤ p.block ∧ b ≠ p.block ∧ n ≠ p.block) :
    ((W.setCell p u).cell? ⟨b, 0, none⟩ = some (.int .u8 (E : Int)) ∧ (W.setCell p u).cell? ⟨b, 1, none⟩ = some (.int .u8 (M : Int)) ∧ b < (W.setCell p u).heap.size ∧ Below w.heap.size w (W.setCell p u)) ∧ ((W.setCell p u).cell? ⟨n, 0, none⟩ = some u0 ∧ (W.setCell p u).cell? ⟨n, 1, none⟩ = some u1 ∧ (W.setCell p u).cell? ⟨n, 2, none⟩ = some u2 ∧ (∀ o, (W.setCell p u).frozen? ⟨n, o, none⟩ = false) ∧ n < (W.setCell p u).heap.size) := ⟨sf_store h.1 ⟨hp.1, hp.2.1⟩, bx3_far h.2 hp.2.2⟩

/-- six stores into a box of six -/
theorem store6 {W : World} {n : Nat} {u0 u1 u2 u3 u4 u5 : Value} (h : (W.cell? ⟨n, 0, none⟩ = some u0 ∧ W.cell? ⟨n, 1, none⟩ = some u1 ∧ W.cell? ⟨n, 2, none⟩ = some u2 ∧ W.cell? ⟨n, 3, none⟩ = some u3 ∧ W.cell? ⟨n, 4, none⟩ = some u4 ∧ W.cell? ⟨n, 5, none⟩ = some u5 ∧ (∀ o, W.frozen? ⟨n, o, none⟩ = false) ∧ n < W.heap.size))
    (h0 : Not32 u0) (h1 : Not32 u1) (h2 : Not32 u2) (h3 : Not32 u3) (h4 : Not32 u4) (h5 : Not32 u5) (x0 x1 x2 x3 x4 x5 : Value) :
    Kp W ((((((W.setCell ⟨n, 0, none⟩ x0).setCell ⟨n, 1, none⟩ x1).setCell ⟨n, 2, none⟩ x2).setCell ⟨n, 3, none⟩ x3).setCell ⟨n, 4, none⟩ x4).setCell ⟨n, 5, none⟩ x5) := by
  refine Kp.setCell (Kp.setCell (Kp.setCell (Kp.setCell (Kp.setCell (Kp.setCell (Kp.refl W) h.1 h0) (u := u1) ?_ h1) (u := u2) ?_ h2) (u := u3) ?_ h3) (u := u4) ?_ h4) (u := u5) ?_ h5
  · rw [other _ _ (by simp)]; exact h.2.1
  · rw [other _ _ (by simp), other _ _ (by simp)]; exact h.2.2.1
  · rw [other _ _ (by simp), other _ _ (by simp), other _ _ (by simp)]; exact h.2.2.2.1
  · rw [other _ _ (by simp), other _ _ (by simp), other _ _ (by simp), other _ _ (by simp)]; exact h.2.2.2.2.1
  · rw [other _ _ (by simp), other _ _ (by simp), other _ _ (by simp), other _ _ (by simp), other _ _ (by simp)]; exact h.2.2.2.2.2.1

set_option maxRecDepth 100000 in
set_option maxHeartbeats 4000000 in
theorem open_ok (E M : Nat) (h : FOk E M) (x : Nat) (hx : x < 18446744073709551616) (w : World) :
    Calls Oajg.prog 63 #[.agg #[.int .u8 (E : Int), .int .u8 (M : Int)], .int .u64 (x : Int)] w fun e w' => ∃ a1 k1 c1 a2 k2 c2,
      e = .returned (.agg #[.int .u64 ((x % 2 ^ (E + M + 1) : Nat) : Int), .bool (fNeg E M (x % 2 ^ (E + M + 1))), .int .i8 (upC E M (x % 2 ^ (E + M + 1))), .bool (vN E M (x % 2 ^ (E + M + 1))), .slice a1 k1 c1, .slice a2 k2 c2]) ∧ NatIs 2050 w' (.slice a1 k1 c1) (vNum E M (x % 2 ^ (E + M + 1))) ∧ NatIs 2050 w' (.slice a2 k2 c2) (vDen E M (x % 2 ^ (E + M + 1))) ∧ Below w.heap.size w w' := by
  have hX : x % 2 ^ (E + M + 1) < 18446744073709551616 := Nat.lt_of_le_of_lt (Nat.mod_le _ _) hx
  have HM : Hid (∀ w, Calls Oajg.prog 116 #[.agg #[.int .u8 (E : Int), .int .u8 (M : Int)]] w fun e w' => e = .returned (.int .u64 ((2 * 2 ^ (E + M) - 1 : Nat) : Int)) ∧ Below w.heap.size w w') := mask_ok E M h
  have HS : Hid (∀ w, Calls Oajg.prog 105 #[.agg #[.int .u8 (E : Int), .int .u8 (M : Int)]] w fun e w' => e = .returned (.int .u64 ((2 ^ (E + M) : Nat) : Int)) ∧ Below w.heap.size w w') := signBit_ok E M h
  have HV : Hid (∀ w, Calls Oajg.prog 26 #[.agg #[.int .u8 (E : Int), .int .u8 (M : Int)], .int .u64 ((x % 2 ^ (E + M + 1) : Nat) : Int)] w fun e w' => ∃ a1 k1 c1 a2 k2 c2,
      e = .returned (.tuple #[.agg #[.bool (vN E M (x % 2 ^ (E + M + 1))), .slice a1 k1 c1, .slice a2 k2 c2], .int .i8 (upC E M (x % 2 ^ (E + M + 1)))]) ∧ NatIs 2050 w' (.slice a1 k1 c1) (vNum E M (x % 2 ^ (E + M + 1))) ∧ NatIs 2050 w' (.slice a2 k2 c2) (vDen E M (x % 2 ^ (E + M + 1))) ∧ Below w.heap.size w w') := value_ok E M h _ hX
  obtain ⟨e2, e11, m2, m52⟩ := h
  have p1 := pow2_lt64 (E + M) (by omega)
  have p2 := pow2_pos (E + M)
  have k1 : bits .and .u64 (x : Int) ((2 * 2 ^ (E + M) - 1 : Nat) : Int) = ((x % 2 ^ (E + M + 1) : Nat) : Int) := by
    rw [bits_and_u64_nat _ _ hx (by omega), show 2 * 2 ^ (E + M) = 2 ^ (E + M + 1) by rw [Nat.pow_succ, Nat.mul_comm], Nat.and_two_pow_sub_one_eq_mod]
  generalize x % 2 ^ (E + M + 1) = X at *
  have k2 : bits .and .u64 (X : Int) ((2 ^ (E + M) : Nat) : Int) = ((X &&& 2 ^ (E + M) : Nat) : Int) := bits_and_u64_nat _ _ hX (by omega)
  have k3 : (((X &&& 2 ^ (E + M) : Nat) : Int) != 0) = fNeg E M X := and_pow_ne X (E + M)
  generalize 2 * 2 ^ (E + M) - 1 = P1 at *
  generalize X &&& 2 ^ (E + M) = X1 at *
  generalize 2 ^ (E + M) = P at *
  generalize fNeg E M X = N at *
  generalize upC E M X = C at *
  generalize vN E M X = N2 at *
  generalize vNum E M X = num at *
  generalize vDen E M X = den at *
  clear p1 p2
  have hS := sf_alloc (sf_box w E M) (.cells #[.int .u64 0, .bool false, .int .i8 0, .bool false, .slice none 0 0, .slice none 0 0] 98)
  have hR := bx6_made (w.alloc (.cells #[.int .u8 (E : Int), .int .u8 (M : Int)] 23)) (m := w.heap.size + 1) (.int .u64 0) (.bool false) (.int .i8 0) (.bool false) (.slice none 0 0) (.slice none 0 0) 98 (by simp)
  go_enter Oajg.func63, Oajg.ntmps63
  go_wp2_with fail
  refine Calls.mono (HM.out _) ?_
  rintro _ w0 ⟨rfl, hb⟩
  replace hS := sf_next hS hb
  replace hR := bx6_next hR hb
  clear hb HM
  go_wp2_with fail
  refine Calls.mono (HV.out _) ?_
  rintro _ w1 ⟨a1, k1, c1, a2, k2, c2, rfl, hN1, hN2, hb⟩
  replace hS := sf_next hS hb
  replace hR := bx6_next hR hb
  have HN1 : Hid (NatIs 2050 w1 (.slice a1 k1 c1) num) := hN1
  have HN2 : Hid (NatIs 2050 w1 (.slice a2 k2 c2) den) := hN2
  clear hb HV hN1 hN2
  have hn : w.heap.size + 1 < w1.heap.size := hR.2.2.2.2.2.2.2
  have hQ := And.intro (sf_alloc hS (.cells #[.bool N2, .slice a1 k1 c1, .slice a2 k2 c2] 48)) (bx3_made w1 (m := w1.heap.size) (.bool N2) (.slice a1 k1 c1) (.slice a2 k2 c2) 48 rfl)
  have hR2 := bx6_alloc hR (.cells #[.bool N2, .slice a1 k1 c1, .slice a2 k2 c2] 48)
  have HK : Hid (Kp w1 (w1.alloc (.cells #[.bool N2, .slice a1 k1 c1, .slice a2 k2 c2] 48))) := (Kp.refl _).alloc _
  clear hS hR
  go_wp2_with fail
  go_region_held3 (fun W => (W.cell? ⟨w.heap.size, 0, none⟩ = some (.int .u8 (E : Int)) ∧ W.cell? ⟨w.heap.size, 1, none⟩ = some (.int .u8 (M : Int)) ∧ w.heap.size < W.heap.size ∧ Below w.heap.size w W) ∧ (W.cell? ⟨w1.heap.size, 0, none⟩ = some (.bool N2) ∧ W.cell? ⟨w1.heap.size, 1, none⟩ = some (.slice a1 k1 c1) ∧ W.cell? ⟨w1.heap.size, 2, none⟩ = some (.slice a2 k2 c2) ∧ (∀ o, W.frozen? ⟨w1.heap.size, o, none⟩ = false) ∧ w1.heap.size < W.heap.size))
    ((repeat' (first | with_reducible assumption | with_reducible refine sfb3_drew ?_ | with_reducible refine sfb3_store ?_ ?_ | (simp only [World.size_alloc, World.size_drew, World.size_setCell]; omega) | omega)))
    ((go_at_call 105; refine Calls.mono (HS.out _) ?_; rintro _ w3 ⟨rfl, hb⟩; have hQ3 := sfb3_next (by with_reducible assumption) hb; have hR3 := bx6_next (bx6_drew hR2) hb; have HK3 : Hid (Kp w1 w3) := HK.out.drew.trans (Kp.of hb); clear hb))
  go_wp2_with fail
  have hkp := HK3.out.trans (store6 hR3 (not32_u64 _) (not32_bool _) (not32_i8 _) (not32_bool _) (not32_slice _ _ _) (not32_slice _ _ _) (.int .u64 (X : Int)) (.bool N) (.int .i8 C) (.bool N2) (.slice a1 k1 c1) (.slice a2 k2 c2))
  refine bodyPost_ret (v := .agg #[.int .u64 (X : Int), .bool N, .int .i8 C, .bool N2, .slice a1 k1 c1, .slice a2 k2 c2]) (by simp [results, Oajg.results63, go_sem, hR3]) rfl ⟨_, _, _, _, _, _, rfl, HN1.out.kp hkp, HN2.out.kp hkp, ?_⟩
  exact (((((hQ3.1.2.2.2.setCell (Nat.le_succ _) _).setCell (Nat.le_succ _) _).setCell (Nat.le_succ _) _).setCell (Nat.le_succ _) _).setCell (Nat.le_succ _) _).setCell (Nat.le_succ _) _

end Go.Proofs.Ygcoaj
