/-
  WALKS: wide.Sqrt (153) of a number with one of its two upper bits set.
-/
import Derived.Test.YgcoajWd3
import Derived.Deep.RegionHeld3
set_option linter.unusedVariables false
set_option linter.unusedSimpArgs false
namespace Go.Proofs.Ygcoaj
open Go.RowKit

theorem sq_next {w W W' : World} {n0 n6 ah al : Nat} (h : (W.cell? ⟨n0, 0, none⟩ = some (.int .u64 (ah : Int)) ∧ W.cell? ⟨n0, 1, none⟩ = some (.int .u64 (al : Int)) ∧ (∀ o, W.frozen? ⟨n0, o, none⟩ = false) ∧ n0 < W.heap.size) ∧ (W.cell? ⟨n6, 0, none⟩ = some (.int .u64 (ah : Int)) ∧ W.cell? ⟨n6, 1, none⟩ = some (.int .u64 (al : Int)) ∧ (∀ o, W.frozen? ⟨n6, o, none⟩ = false) ∧ n6 < W.heap.size) ∧ Below w.heap.size w W) (hb : Below W.heap.size W W') : (W'.cell? ⟨n0, 0, none⟩ = some (.int .u64 (ah : Int)) ∧ W'.cell? ⟨n0, 1, none⟩ = some (.int .u64 (al : Int)) ∧ (∀ o, W'.frozen? ⟨n0, o, none⟩ = false) ∧ n0 < W'.heap.size) ∧ (W'.cell? ⟨n6, 0, none⟩ = some (.int .u64 (ah : Int)) ∧ W'.cell? ⟨n6, 1, none⟩ = some (.int .u64 (al : Int)) ∧ (∀ o, W'.frozen? ⟨n6, o, none⟩ = false) ∧ n6 < W'.heap.size) ∧ Below w.heap.size w W' :=
  ⟨bx2_next h.1 hb, bx2_next h.2.1 hb, below_then h.2.2 hb⟩
theorem sq_drew {w W : World} {n0 n6 ah al : Nat} (h : (W.cell? ⟨n0, 0, none⟩ = some (.int .u64 (ah : Int)) ∧ W.cell? ⟨n0, 1, none⟩ = some (.int .u64 (al : Int)) ∧ (∀ o, W.frozen? ⟨n0, o, none⟩ = false) ∧ n0 < W.heap.size) ∧ (W.cell? ⟨n6, 0, none⟩ = some (.int .u64 (ah : Int)) ∧ W.cell? ⟨n6, 1, none⟩ = some (.int .u64 (al : Int)) ∧ (∀ o, W.frozen? ⟨n6, o, none⟩ = false) ∧ n6 < W.heap.size) ∧ Below w.heap.size w W) : (W.drew.cell? ⟨n0, 0, none⟩ = some (.int .u64 (ah : Int)) ∧ W.drew.cell? ⟨n0, 1, none⟩ = some (.int .u64 (al : Int)) ∧ (∀ o, W.drew.frozen? ⟨n0, o, none⟩ = false) ∧ n0 < W.drew.heap.size) ∧ (W.drew.cell? ⟨n6, 0, none⟩ = some (.int .u64 (ah : Int)) ∧ W.drew.cell? ⟨n6, 1, none⟩ = some (.int .u64 (al : Int)) ∧ (∀ o, W.drew.frozen? ⟨n6, o, none⟩ = false) ∧ n6 < W.drew.heap.size) ∧ Below w.heap.size w W.drew := ⟨h.1, h.2.1, h.2.2.drew⟩

theorem root_lt {x r n : Nat} (h : IsRoot x r) (hx : x < n * n) : r < n := by
  rcases Nat.lt_or_ge r n with h1 | h1
  · exact h1
  · have := Nat.mul_le_mul h1 h1
    have := h.1
    omega
theorem root_ge {x r n : Nat} (h : IsRoot x r) (hx : n * n ≤ x) : n ≤ r := by
  rcases Nat.lt_or_ge r n with h1 | h1
  · have : (r + 1) * (r + 1) ≤ n * n := Nat.mul_le_mul h1 h1
    have := h.2
    omega
  · exact h1
theorem root_rest {x r : Nat} (h : IsRoot x r) : x - r * r ≤ 2 * r := by
  have h2 := h.2
  have e : (r + 1) * (r + 1) = r * r + 2 * r + 1 := by grind
  rw [e] at h2; omega
theorem w128_join {x : Nat} : w128 (x / 18446744073709551616) (x % 18446744073709551616) = x := by unfold w128; omega

set_option maxRecDepth 100000 in
set_option maxHeartbeats 4000000 in
theorem wsqrt_ok (ah al : Nat) (h62 : 4611686018427387904 ≤ ah) (h64 : ah < 18446744073709551616) (hal : al < 18446744073709551616) (w : World) :
    Calls Oajg.prog 153 #[.agg #[.int .u64 (ah : Int), .int .u64 (al : Int)]] w fun e w' => ∃ r, IsRoot (w128 ah al) r ∧ r < 18446744073709551616 ∧ e = .returned (.tuple #[.int .u64 (r : Int), .bool (decide (r * r = w128 ah al))]) ∧ Below w.heap.size w w' := by
  obtain ⟨X, hX⟩ : ∃ X, X = w128 ah al := ⟨_, rfl⟩
  rw [← hX]
  have HS : Hid (∀ W, Calls Oajg.prog 187 #[.agg #[.int .u64 (ah : Int), .int .u64 (al : Int)], .int .u8 0] W fun e w' => e = .returned (.agg #[.int .u64 (ah : Int), .int .u64 (al : Int)]) ∧ Below W.heap.size W w') := fun W => by
    have := wshl_ok ah al 0 h64 hal (by decide) (by unfold w128; omega) W
    rw [Nat.pow_zero, Nat.mul_one, w128_hi hal, w128_lo hal] at this
    exact this
  have HC : Hid (∀ W, Calls Oajg.prog 133 #[.int .u64 (ah : Int)] W fun e w' => ∃ c, bits .andNot .u8 c 1 = 0 ∧ e = .returned (.int .u8 c) ∧ w' = W) := fun W => by
    refine Calls.mono (clz_ok ah h64 (by omega) W) ?_
    rintro e w' ⟨rfl, rfl⟩
    have h1 : 62 < bitLen ah := by
      rcases Nat.lt_or_ge 62 (bitLen ah) with h | h
      · exact h
      · have := bitLen_lt ah
        have h3 : 2 ^ bitLen ah ≤ 2 ^ 62 := Nat.pow_le_pow_right (by decide) h
        have : (2 : Nat) ^ 62 = 4611686018427387904 := by decide
        omega
    have h2 : bitLen ah ≤ 64 := bitLen_le_of_lt (n := 64) h64
    refine ⟨_, ?_, rfl, rfl⟩
    rcases (show bitLen ah = 63 ∨ bitLen ah = 64 by omega) with h | h <;> rw [h] <;> decide
  have HRO : Hid (∀ W, Calls Oajg.prog 186 #[.int .u64 (ah : Int)] W fun e w' => ∃ r, IsRoot ah r ∧ e = .returned (.tuple #[.int .u64 (r : Int), .int .u64 ((ah - r * r : Nat) : Int)]) ∧ Below W.heap.size W w') := root_ok ah h62 h64
  have HDIV : Hid (∀ rh rl d W, rl < 18446744073709551616 → d < 18446744073709551616 → rh < d → Calls Oajg.prog 185 #[.agg #[.int .u64 ((rh : Nat) : Int), .int .u64 ((rl : Nat) : Int)], .int .u64 ((d : Nat) : Int)] W fun e w' => e = .returned (.tuple #[.int .u64 ((w128 rh rl / d : Nat) : Int), .int .u64 ((w128 rh rl % d : Nat) : Int), .bool true]) ∧ Below W.heap.size W w') := fun rh rl d W h1 h2 h3 => wdiv_ok rh rl d h1 h2 h3 W
  have hne : ¬ ah = 0 := by omega
  have hA := bx2_made w (m := w.heap.size) (.int .u64 (ah : Int)) (.int .u64 (al : Int)) 88 rfl
  have HB0 : Hid (Below w.heap.size w (w.alloc (.cells #[.int .u64 (ah : Int), .int .u64 (al : Int)] 88))) := (Below.refl _ _).alloc (Nat.le_refl _) _
  go_enter Oajg.func153, Oajg.ntmps153
  go_wp2_with fail
  refine Calls.mono (HC.out _) ?_
  rintro _ _ ⟨cz, hcz, rfl, rfl⟩
  generalize hW0 : (w.alloc (.cells #[.int .u64 (ah : Int), .int .u64 (al : Int)] 88)) = W0 at *
  clear hW0
  go_wp2_with fail
  refine Calls.mono (HS.out _) ?_
  rintro _ w1 ⟨rfl, hb⟩
  have hA1 := bx2_next hA hb
  have HB1 : Hid (Below w.heap.size w w1) := below_then HB0.out hb
  clear hA HB0 hb
  have hS := (show ((w1.alloc (.cells #[.int .u64 (ah : Int), .int .u64 (al : Int)] 88)).cell? ⟨w.heap.size, 0, none⟩ = some (.int .u64 (ah : Int)) ∧ (w1.alloc (.cells #[.int .u64 (ah : Int), .int .u64 (al : Int)] 88)).cell? ⟨w.heap.size, 1, none⟩ = some (.int .u64 (al : Int)) ∧ (∀ o, (w1.alloc (.cells #[.int .u64 (ah : Int), .int .u64 (al : Int)] 88)).frozen? ⟨w.heap.size, o, none⟩ = false) ∧ w.heap.size < (w1.alloc (.cells #[.int .u64 (ah : Int), .int .u64 (al : Int)] 88)).heap.size) ∧ ((w1.alloc (.cells #[.int .u64 (ah : Int), .int .u64 (al : Int)] 88)).cell? ⟨w1.heap.size, 0, none⟩ = some (.int .u64 (ah : Int)) ∧ (w1.alloc (.cells #[.int .u64 (ah : Int), .int .u64 (al : Int)] 88)).cell? ⟨w1.heap.size, 1, none⟩ = some (.int .u64 (al : Int)) ∧ (∀ o, (w1.alloc (.cells #[.int .u64 (ah : Int), .int .u64 (al : Int)] 88)).frozen? ⟨w1.heap.size, o, none⟩ = false) ∧ w1.heap.size < (w1.alloc (.cells #[.int .u64 (ah : Int), .int .u64 (al : Int)] 88)).heap.size) ∧ Below w.heap.size w (w1.alloc (.cells #[.int .u64 (ah : Int), .int .u64 (al : Int)] 88)) from ⟨bx2_alloc hA1 _, bx2_made w1 (m := w1.heap.size) _ _ 88 rfl, HB1.out.alloc (by have := hA1.2.2.2; omega) _⟩)
  clear hA1 HB1
  go_wp2_with fail
  refine Calls.mono (HRO.out _) ?_
  rintro _ w2 ⟨R, hR, rfl, hb⟩
  replace hS := sq_next hS hb
  clear hb HRO
  generalize w1.heap.size = n6 at *
  have r1 : 2147483648 ≤ R := root_ge hR (by omega)
  have r2 : R < 4294967296 := root_lt hR (by omega)
  have r3 := root_rest hR
  obtain ⟨RS, hRS⟩ : ∃ RS, RS = ah - R * R := ⟨_, rfl⟩
  have r4 : RS + R * R = ah := by have := hR.1; omega
  rw [← hRS] at r3 ⊢
  obtain ⟨T, hT⟩ : ∃ T, T = RS * 4294967296 + al / 4294967296 := ⟨_, rfl⟩
  obtain ⟨dh, hdh⟩ : ∃ dh, dh = RS / 4294967296 := ⟨_, rfl⟩
  obtain ⟨dl, hdl⟩ : ∃ dl, dl = RS * 4294967296 % 18446744073709551616 + al / 4294967296 := ⟨_, rfl⟩
  have hTd : w128 dh dl = T := by unfold w128; omega
  obtain ⟨D, hD⟩ : ∃ D, D = 2 * R := ⟨_, rfl⟩
  have HD1 := HDIV.out dh dl D
  rw [hTd] at HD1
  have HD : Hid (∀ W, Calls Oajg.prog 185 #[.agg #[.int .u64 (dh : Int), .int .u64 (dl : Int)], .int .u64 (D : Int)] W fun e w' => e = .returned (.tuple #[.int .u64 ((T / D : Nat) : Int), .int .u64 ((T % D : Nat) : Int), .bool true]) ∧ Below W.heap.size W w') := fun W => HD1 W (by omega) (by omega) (by omega)
  clear HD1 HDIV
  obtain ⟨l0, hl0⟩ : ∃ l0, l0 = T / D := ⟨_, rfl⟩
  obtain ⟨TD, hTD⟩ : ∃ TD, TD = T % D := ⟨_, rfl⟩
  rw [← hl0, ← hTD] at HD
  clear hTD
  have hq : l0 ≤ 4294967296 := by
    rw [hl0]
    have : T < D * 4294967297 := by omega
    have := Nat.div_lt_of_lt_mul this
    omega
  obtain ⟨l, hl⟩ : ∃ l, l = min l0 4294967295 := ⟨_, rfl⟩
  have hlow := root_low (B := 4294967296) (S := R) (x := X) (top := ah) (xl := al) (left := RS) (T := T) (l := l) (xr := 0) (t := 0) (by decide) (by omega) r4 hR.2 (by rw [hX]; rfl) (by omega) hT (by rw [hl, hl0, hD])
  have hll : l ≤ 4294967295 := by rw [hl]; exact Nat.min_le_right _ _
  obtain ⟨s, hs⟩ : ∃ s, s = R * 4294967296 + l := ⟨_, rfl⟩
  rw [← hs] at hlow
  have s64 : s < 18446744073709551616 := by omega
  have k1 : (RS : Int) / 4294967296 = (dh : Int) := by omega
  have k2 : bits .or .u64 (IntKind.u64.wrap ((RS : Int) * 4294967296)) ((al : Int) / 4294967296) = (dl : Int) := by
    have e := orN 32 (RS * 4294967296 % 18446744073709551616) (al / 4294967296) (by omega) (by omega) (by decide) (by omega)
    rw [← hdl] at e
    rw [← e, IntKind.wrap_u64]
    congr 1
  have k3 : IntKind.u64.wrap (2 * (R : Int)) = (D : Int) := by rw [IntKind.wrap_u64]; omega
  have k4 : bits .or .u64 (IntKind.u64.wrap ((R : Int) * 4294967296)) (l : Int) = (s : Int) := by
    have e := orN 32 (R * 4294967296) l (by omega) (by omega) (by decide) (by omega)
    rw [← hs] at e
    rw [← e, IntKind.wrap_u64]
    congr 1; omega
  have k5 : bits .or .u64 ((R : Int) * 4294967296) (l : Int) = (s : Int) := by
    have e := orN 32 (R * 4294967296) l (by omega) (by omega) (by decide) (by omega)
    rw [← hs] at e
    rw [← e]
    congr 1
  have hss : s * s < 18446744073709551616 * 18446744073709551616 := Nat.mul_lt_mul_of_lt_of_lt s64 s64
  obtain ⟨mh, hmh⟩ : ∃ m, m = s * s / 18446744073709551616 := ⟨_, rfl⟩
  obtain ⟨ml, hml⟩ : ∃ m, m = s * s % 18446744073709551616 := ⟨_, rfl⟩
  have HM : Hid (∀ W, Calls Oajg.prog 184 #[.int .u64 (s : Int), .int .u64 (s : Int)] W fun e w' => e = .returned (.agg #[.int .u64 (mh : Int), .int .u64 (ml : Int)]) ∧ Below W.heap.size W w') := fun W => by
    have := mul64_ok s s s64 s64 W
    rw [← hmh, ← hml] at this
    exact this
  obtain ⟨Z, hZ⟩ : ∃ Z, Z = cmpZ (s * s) X := ⟨_, rfl⟩
  have HC : Hid (∀ W, Calls Oajg.prog 188 #[.agg #[.int .u64 (mh : Int), .int .u64 (ml : Int)], .agg #[.int .u64 (ah : Int), .int .u64 (al : Int)]] W fun e w' => e = .returned (.int .i8 Z) ∧ Below W.heap.size W w') := fun W => by
    have := wcmp_ok mh ml ah al (by rw [hmh]; exact Nat.div_lt_of_lt_mul hss) (by rw [hml]; exact Nat.mod_lt _ (by decide)) h64 hal W
    rw [hmh, hml, w128_join, ← hX, ← hZ] at this
    rw [hmh, hml]
    exact this
  have hfin : ∃ r : Nat, IsRoot X r ∧ ((r = s ∧ decide (0 < Z) = false) ∨ ((s : Int) - 1 = (r : Int) ∧ 0 < Z)) := by
    rcases hlow with hh | ⟨h0, hh, hh2⟩
    · refine ⟨s, hh, Or.inl ⟨rfl, ?_⟩⟩
      have := hh.1
      rw [hZ, decide_eq_false_iff_not]
      unfold cmpZ
      split
      · decide
      · split
        · decide
        · omega
    · refine ⟨s - 1, hh2, Or.inr ⟨by omega, ?_⟩⟩
      rw [hZ]
      unfold cmpZ
      rw [if_neg (by omega), if_neg (by omega)]
      decide
  obtain ⟨r, hrt, hrs⟩ := hfin
  have HRT : Hid (IsRoot X r) := hrt
  have hr64 : r < 18446744073709551616 := root_lt hrt (by rw [hX]; unfold w128; omega)
  have hrr : r * r < 18446744073709551616 * 18446744073709551616 := Nat.mul_lt_mul_of_lt_of_lt hr64 hr64
  obtain ⟨rh, hrh⟩ : ∃ m, m = r * r / 18446744073709551616 := ⟨_, rfl⟩
  obtain ⟨rl, hrl⟩ : ∃ m, m = r * r % 18446744073709551616 := ⟨_, rfl⟩
  have HM2 : Hid (∀ W, Calls Oajg.prog 184 #[.int .u64 (r : Int), .int .u64 (r : Int)] W fun e w' => e = .returned (.agg #[.int .u64 (rh : Int), .int .u64 (rl : Int)]) ∧ Below W.heap.size W w') := fun W => by
    have := mul64_ok r r hr64 hr64 W
    rw [← hrh, ← hrl] at this
    exact this
  have hcmp : (ah = rh ∧ al = rl) ∨ (¬ rh = ah) ∨ (ah = rh ∧ ¬ rl = al) := by omega
  have HEQ : Hid ((decide (rh = ah) && decide (rl = al)) = decide (r * r = X)) := by
    show _ = _
    rw [Bool.eq_iff_iff, Bool.and_eq_true, decide_eq_true_iff, decide_eq_true_iff, decide_eq_true_iff, hX]
    have e := w128_join (x := r * r)
    rw [← hrh, ← hrl] at e
    rw [← e]
    unfold w128
    have : rl < 18446744073709551616 := by rw [hrl]; exact Nat.mod_lt _ (by decide)
    omega
  have hmin : (¬ 4294967295 < l0 ∧ l = l0) ∨ (4294967295 < l0 ∧ l = 4294967295) := by omega
  clear hlow hR r1 r3 hRS r4 hT hdh hdl hTd hl0 hl hs hss hmh hml hZ hrt hrr hrh hrl hX
  clear HS hne h62 hD hq hll
  have hk4 : bits .or .u64 (IntKind.u64.wrap ((R : Int) * 4294967296)) (if 4294967295 < (l0 : Int) then 4294967295 else (l0 : Int)) = (s : Int) := by
    rcases hmin with ⟨h1, h2⟩ | ⟨h1, h2⟩
    · rw [if_neg (by omega), ← h2]; exact k4
    · rw [if_pos (by omega)]; rw [h2] at k4; exact k4
  rcases hmin with ⟨hm, hm2⟩ | ⟨hm, hm2⟩
  · subst hm2
    rcases hrs with ⟨hr1, hz⟩ | ⟨hr1, hz⟩
    · subst hr1
      have hz2 : ¬ 0 < Z := by simpa using hz
      go_wp2_with fail
      refine Calls.mono (HD.out _) ?_
      rintro _ w3 ⟨rfl, hb⟩
      replace hS := sq_next hS hb
      clear hb
      go_wp2_with fail
      go_region_held3 (fun W => (W.cell? ⟨w.heap.size, 0, none⟩ = some (.int .u64 (ah : Int)) ∧ W.cell? ⟨w.heap.size, 1, none⟩ = some (.int .u64 (al : Int)) ∧ (∀ o, W.frozen? ⟨w.heap.size, o, none⟩ = false) ∧ w.heap.size < W.heap.size) ∧ (W.cell? ⟨n6, 0, none⟩ = some (.int .u64 (ah : Int)) ∧ W.cell? ⟨n6, 1, none⟩ = some (.int .u64 (al : Int)) ∧ (∀ o, W.frozen? ⟨n6, o, none⟩ = false) ∧ n6 < W.heap.size) ∧ Below w.heap.size w W) ((repeat' (first | with_reducible assumption | with_reducible refine sq_drew ?_))) ((first | (go_at_call 184; refine Calls.mono (HM.out _) ?_; rintro _ wa ⟨rfl, hb⟩; have hSwa := sq_next (by with_reducible assumption) hb; clear hb) | (go_at_call 188; refine Calls.mono (HC.out _) ?_; rintro _ wb ⟨rfl, hb⟩; have hSwb := sq_next (by with_reducible assumption) hb; clear hb)))
      go_wp2_with fail
      go_wp2_with fail
      rcases hcmp with ⟨h1, h2⟩ | h1 | ⟨h1, h2⟩
      · subst h1 h2
        go_region_held3 (fun W => (W.cell? ⟨w.heap.size, 0, none⟩ = some (.int .u64 (ah : Int)) ∧ W.cell? ⟨w.heap.size, 1, none⟩ = some (.int .u64 (al : Int)) ∧ (∀ o, W.frozen? ⟨w.heap.size, o, none⟩ = false) ∧ w.heap.size < W.heap.size) ∧ (W.cell? ⟨n6, 0, none⟩ = some (.int .u64 (ah : Int)) ∧ W.cell? ⟨n6, 1, none⟩ = some (.int .u64 (al : Int)) ∧ (∀ o, W.frozen? ⟨n6, o, none⟩ = false) ∧ n6 < W.heap.size) ∧ Below w.heap.size w W) ((repeat' (first | with_reducible assumption | with_reducible refine sq_drew ?_))) ((first | (go_at_call 184; refine Calls.mono (HM2.out _) ?_; rintro _ wc ⟨rfl, hb⟩; have hSwc := sq_next (by with_reducible assumption) hb; clear hb)))
        go_wp2_with fail
        go_ret2
        exact ⟨_, HRT.out, by omega, by rw [← HEQ.out]; first | rfl | (simp [*]; done), hSwc.2.2⟩
      · have h3 : decide (rh = ah) = false := by simp [h1]
        have h4 : (rh == ah) = false := by simp [h1]
        have h5 : ((rh : Int) == (ah : Int)) = false := by simp; omega
        have h6 : ¬ ((rh : Int) = (ah : Int)) := by omega
        go_region_held3 (fun W => (W.cell? ⟨w.heap.size, 0, none⟩ = some (.int .u64 (ah : Int)) ∧ W.cell? ⟨w.heap.size, 1, none⟩ = some (.int .u64 (al : Int)) ∧ (∀ o, W.frozen? ⟨w.heap.size, o, none⟩ = false) ∧ w.heap.size < W.heap.size) ∧ (W.cell? ⟨n6, 0, none⟩ = some (.int .u64 (ah : Int)) ∧ W.cell? ⟨n6, 1, none⟩ = some (.int .u64 (al : Int)) ∧ (∀ o, W.frozen? ⟨n6, o, none⟩ = false) ∧ n6 < W.heap.size) ∧ Below w.heap.size w W) ((repeat' (first | with_reducible assumption | with_reducible refine sq_drew ?_))) ((first | (go_at_call 184; refine Calls.mono (HM2.out _) ?_; rintro _ wc ⟨rfl, hb⟩; have hSwc := sq_next (by with_reducible assumption) hb; clear hb)))
        go_wp2_with fail
        go_ret2
        exact ⟨_, HRT.out, by omega, by rw [← HEQ.out]; first | rfl | (simp [*]; done), hSwc.2.2⟩
      · subst h1
        have h5 : ((rl : Int) == (al : Int)) = false := by simp; omega
        have h6 : ¬ ((rl : Int) = (al : Int)) := by omega
        go_region_held3 (fun W => (W.cell? ⟨w.heap.size, 0, none⟩ = some (.int .u64 (ah : Int)) ∧ W.cell? ⟨w.heap.size, 1, none⟩ = some (.int .u64 (al : Int)) ∧ (∀ o, W.frozen? ⟨w.heap.size, o, none⟩ = false) ∧ w.heap.size < W.heap.size) ∧ (W.cell? ⟨n6, 0, none⟩ = some (.int .u64 (ah : Int)) ∧ W.cell? ⟨n6, 1, none⟩ = some (.int .u64 (al : Int)) ∧ (∀ o, W.frozen? ⟨n6, o, none⟩ = false) ∧ n6 < W.heap.size) ∧ Below w.heap.size w W) ((repeat' (first | with_reducible assumption | with_reducible refine sq_drew ?_))) ((first | (go_at_call 184; refine Calls.mono (HM2.out _) ?_; rintro _ wc ⟨rfl, hb⟩; have hSwc := sq_next (by with_reducible assumption) hb; clear hb)))
        go_wp2_with fail
        go_ret2
        exact ⟨_, HRT.out, by omega, by rw [← HEQ.out]; first | rfl | (simp [*]; done), hSwc.2.2⟩

    · have kr : IntKind.u64.wrap ((s : Int) - 1) = (r : Int) := by rw [hr1, IntKind.wrap_u64]; omega
      clear hr1
      go_wp2_with fail
      refine Calls.mono (HD.out _) ?_
      rintro _ w3 ⟨rfl, hb⟩
      replace hS := sq_next hS hb
      clear hb
      go_wp2_with fail
      go_region_held3 (fun W => (W.cell? ⟨w.heap.size, 0, none⟩ = some (.int .u64 (ah : Int)) ∧ W.cell? ⟨w.heap.size, 1, none⟩ = some (.int .u64 (al : Int)) ∧ (∀ o, W.frozen? ⟨w.heap.size, o, none⟩ = false) ∧ w.heap.size < W.heap.size) ∧ (W.cell? ⟨n6, 0, none⟩ = some (.int .u64 (ah : Int)) ∧ W.cell? ⟨n6, 1, none⟩ = some (.int .u64 (al : Int)) ∧ (∀ o, W.frozen? ⟨n6, o, none⟩ = false) ∧ n6 < W.heap.size) ∧ Below w.heap.size w W) ((repeat' (first | with_reducible assumption | with_reducible refine sq_drew ?_))) ((first | (go_at_call 184; refine Calls.mono (HM.out _) ?_; rintro _ wa ⟨rfl, hb⟩; have hSwa := sq_next (by with_reducible assumption) hb; clear hb) | (go_at_call 188; refine Calls.mono (HC.out _) ?_; rintro _ wb ⟨rfl, hb⟩; have hSwb := sq_next (by with_reducible assumption) hb; clear hb)))
      go_wp2_with fail
      go_wp2_with fail
      rcases hcmp with ⟨h1, h2⟩ | h1 | ⟨h1, h2⟩
      · subst h1 h2
        go_region_held3 (fun W => (W.cell? ⟨w.heap.size, 0, none⟩ = some (.int .u64 (ah : Int)) ∧ W.cell? ⟨w.heap.size, 1, none⟩ = some (.int .u64 (al : Int)) ∧ (∀ o, W.frozen? ⟨w.heap.size, o, none⟩ = false) ∧ w.heap.size < W.heap.size) ∧ (W.cell? ⟨n6, 0, none⟩ = some (.int .u64 (ah : Int)) ∧ W.cell? ⟨n6, 1, none⟩ = some (.int .u64 (al : Int)) ∧ (∀ o, W.frozen? ⟨n6, o, none⟩ = false) ∧ n6 < W.heap.size) ∧ Below w.heap.size w W) ((repeat' (first | with_reducible assumption | with_reducible refine sq_drew ?_))) ((first | (go_at_call 184; refine Calls.mono (HM2.out _) ?_; rintro _ wc ⟨rfl, hb⟩; have hSwc := sq_next (by with_reducible assumption) hb; clear hb)))
        go_wp2_with fail
        go_ret2
        exact ⟨_, HRT.out, by omega, by rw [← HEQ.out]; first | rfl | (simp [*]; done), hSwc.2.2⟩
      · have h3 : decide (rh = ah) = false := by simp [h1]
        have h4 : (rh == ah) = false := by simp [h1]
        have h5 : ((rh : Int) == (ah : Int)) = false := by simp; omega
        have h6 : ¬ ((rh : Int) = (ah : Int)) := by omega
        go_region_held3 (fun W => (W.cell? ⟨w.heap.size, 0, none⟩ = some (.int .u64 (ah : Int)) ∧ W.cell? ⟨w.heap.size, 1, none⟩ = some (.int .u64 (al : Int)) ∧ (∀ o, W.frozen? ⟨w.heap.size, o, none⟩ = false) ∧ w.heap.size < W.heap.size) ∧ (W.cell? ⟨n6, 0, none⟩ = some (.int .u64 (ah : Int)) ∧ W.cell? ⟨n6, 1, none⟩ = some (.int .u64 (al : Int)) ∧ (∀ o, W.frozen? ⟨n6, o, none⟩ = false) ∧ n6 < W.heap.size) ∧ Below w.heap.size w W) ((repeat' (first | with_reducible assumption | with_reducible refine sq_drew ?_))) ((first | (go_at_call 184; refine Calls.mono (HM2.out _) ?_; rintro _ wc ⟨rfl, hb⟩; have hSwc := sq_next (by with_reducible assumption) hb; clear hb)))
        go_wp2_with fail
        go_ret2
        exact ⟨_, HRT.out, by omega, by rw [← HEQ.out]; first | rfl | (simp [*]; done), hSwc.2.2⟩
      · subst h1
        have h5 : ((rl : Int) == (al : Int)) = false := by simp; omega
        have h6 : ¬ ((rl : Int) = (al : Int)) := by omega
        go_region_held3 (fun W => (W.cell? ⟨w.heap.size, 0, none⟩ = some (.int .u64 (ah : Int)) ∧ W.cell? ⟨w.heap.size, 1, none⟩ = some (.int .u64 (al : Int)) ∧ (∀ o, W.frozen? ⟨w.heap.size, o, none⟩ = false) ∧ w.heap.size < W.heap.size) ∧ (W.cell? ⟨n6, 0, none⟩ = some (.int .u64 (ah : Int)) ∧ W.cell? ⟨n6, 1, none⟩ = some (.int .u64 (al : Int)) ∧ (∀ o, W.frozen? ⟨n6, o, none⟩ = false) ∧ n6 < W.heap.size) ∧ Below w.heap.size w W) ((repeat' (first | with_reducible assumption | with_reducible refine sq_drew ?_))) ((first | (go_at_call 184; refine Calls.mono (HM2.out _) ?_; rintro _ wc ⟨rfl, hb⟩; have hSwc := sq_next (by with_reducible assumption) hb; clear hb)))
        go_wp2_with fail
        go_ret2
        exact ⟨_, HRT.out, by omega, by rw [← HEQ.out]; first | rfl | (simp [*]; done), hSwc.2.2⟩

  · subst hm2
    replace k4 : bits .or .u64 (IntKind.u64.wrap ((R : Int) * 4294967296)) 4294967295 = (s : Int) := k4
    replace k5 : bits .or .u64 ((R : Int) * 4294967296) 4294967295 = (s : Int) := k5
    rcases hrs with ⟨hr1, hz⟩ | ⟨hr1, hz⟩
    · subst hr1
      have hz2 : ¬ 0 < Z := by simpa using hz
      go_wp2_with fail
      refine Calls.mono (HD.out _) ?_
      rintro _ w3 ⟨rfl, hb⟩
      replace hS := sq_next hS hb
      clear hb
      go_wp2_with fail
      go_region_held3 (fun W => (W.cell? ⟨w.heap.size, 0, none⟩ = some (.int .u64 (ah : Int)) ∧ W.cell? ⟨w.heap.size, 1, none⟩ = some (.int .u64 (al : Int)) ∧ (∀ o, W.frozen? ⟨w.heap.size, o, none⟩ = false) ∧ w.heap.size < W.heap.size) ∧ (W.cell? ⟨n6, 0, none⟩ = some (.int .u64 (ah : Int)) ∧ W.cell? ⟨n6, 1, none⟩ = some (.int .u64 (al : Int)) ∧ (∀ o, W.frozen? ⟨n6, o, none⟩ = false) ∧ n6 < W.heap.size) ∧ Below w.heap.size w W) ((repeat' (first | with_reducible assumption | with_reducible refine sq_drew ?_))) ((first | (go_at_call 184; refine Calls.mono (HM.out _) ?_; rintro _ wa ⟨rfl, hb⟩; have hSwa := sq_next (by with_reducible assumption) hb; clear hb) | (go_at_call 188; refine Calls.mono (HC.out _) ?_; rintro _ wb ⟨rfl, hb⟩; have hSwb := sq_next (by with_reducible assumption) hb; clear hb)))
      go_wp2_with fail
      go_wp2_with fail
      rcases hcmp with ⟨h1, h2⟩ | h1 | ⟨h1, h2⟩
      · subst h1 h2
        go_region_held3 (fun W => (W.cell? ⟨w.heap.size, 0, none⟩ = some (.int .u64 (ah : Int)) ∧ W.cell? ⟨w.heap.size, 1, none⟩ = some (.int .u64 (al : Int)) ∧ (∀ o, W.frozen? ⟨w.heap.size, o, none⟩ = false) ∧ w.heap.size < W.heap.size) ∧ (W.cell? ⟨n6, 0, none⟩ = some (.int .u64 (ah : Int)) ∧ W.cell? ⟨n6, 1, none⟩ = some (.int .u64 (al : Int)) ∧ (∀ o, W.frozen? ⟨n6, o, none⟩ = false) ∧ n6 < W.heap.size) ∧ Below w.heap.size w W) ((repeat' (first | with_reducible assumption | with_reducible refine sq_drew ?_))) ((first | (go_at_call 184; refine Calls.mono (HM2.out _) ?_; rintro _ wc ⟨rfl, hb⟩; have hSwc := sq_next (by with_reducible assumption) hb; clear hb)))
        go_wp2_with fail
        go_ret2
        exact ⟨_, HRT.out, by omega, by rw [← HEQ.out]; first | rfl | (simp [*]; done), hSwc.2.2⟩
      · have h3 : decide (rh = ah) = false := by simp [h1]
        have h4 : (rh == ah) = false := by simp [h1]
        have h5 : ((rh : Int) == (ah : Int)) = false := by simp; omega
        have h6 : ¬ ((rh : Int) = (ah : Int)) := by omega
        go_region_held3 (fun W => (W.cell? ⟨w.heap.size, 0, none⟩ = some (.int .u64 (ah : Int)) ∧ W.cell? ⟨w.heap.size, 1, none⟩ = some (.int .u64 (al : Int)) ∧ (∀ o, W.frozen? ⟨w.heap.size, o, none⟩ = false) ∧ w.heap.size < W.heap.size) ∧ (W.cell? ⟨n6, 0, none⟩ = some (.int .u64 (ah : Int)) ∧ W.cell? ⟨n6, 1, none⟩ = some (.int .u64 (al : Int)) ∧ (∀ o, W.frozen? ⟨n6, o, none⟩ = false) ∧ n6 < W.heap.size) ∧ Below w.heap.size w W) ((repeat' (first | with_reducible assumption | with_reducible refine sq_drew ?_))) ((first | (go_at_call 184; refine Calls.mono (HM2.out _) ?_; rintro _ wc ⟨rfl, hb⟩; have hSwc := sq_next (by with_reducible assumption) hb; clear hb)))
        go_wp2_with fail
        go_ret2
        exact ⟨_, HRT.out, by omega, by rw [← HEQ.out]; first | rfl | (simp [*]; done), hSwc.2.2⟩
      · subst h1
        have h5 : ((rl : Int) == (al : Int)) = false := by simp; omega
        have h6 : ¬ ((rl : Int) = (al : Int)) := by omega
        go_region_held3 (fun W => (W.cell? ⟨w.heap.size, 0, none⟩ = some (.int .u64 (ah : Int)) ∧ W.cell? ⟨w.heap.size, 1, none⟩ = some (.int .u64 (al : Int)) ∧ (∀ o, W.frozen? ⟨w.heap.size, o, none⟩ = false) ∧ w.heap.size < W.heap.size) ∧ (W.cell? ⟨n6, 0, none⟩ = some (.int .u64 (ah : Int)) ∧ W.cell? ⟨n6, 1, none⟩ = some (.int .u64 (al : Int)) ∧ (∀ o, W.frozen? ⟨n6, o, none⟩ = false) ∧ n6 < W.heap.size) ∧ Below w.heap.size w W) ((repeat' (first | with_reducible assumption | with_reducible refine sq_drew ?_))) ((first | (go_at_call 184; refine Calls.mono (HM2.out _) ?_; rintro _ wc ⟨rfl, hb⟩; have hSwc := sq_next (by with_reducible assumption) hb; clear hb)))
        go_wp2_with fail
        go_ret2
        exact ⟨_, HRT.out, by omega, by rw [← HEQ.out]; first | rfl | (simp [*]; done), hSwc.2.2⟩

    · have kr : IntKind.u64.wrap ((s : Int) - 1) = (r : Int) := by rw [hr1, IntKind.wrap_u64]; omega
      clear hr1
      go_wp2_with fail
      refine Calls.mono (HD.out _) ?_
      rintro _ w3 ⟨rfl, hb⟩
      replace hS := sq_next hS hb
      clear hb
      go_wp2_with fail
      go_region_held3 (fun W => (W.cell? ⟨w.heap.size, 0, none⟩ = some (.int .u64 (ah : Int)) ∧ W.cell? ⟨w.heap.size, 1, none⟩ = some (.int .u64 (al : Int)) ∧ (∀ o, W.frozen? ⟨w.heap.size, o, none⟩ = false) ∧ w.heap.size < W.heap.size) ∧ (W.cell? ⟨n6, 0, none⟩ = some (.int .u64 (ah : Int)) ∧ W.cell? ⟨n6, 1, none⟩ = some (.int .u64 (al : Int)) ∧ (∀ o, W.frozen? ⟨n6, o, none⟩ = false) ∧ n6 < W.heap.size) ∧ Below w.heap.size w W) ((repeat' (first | with_reducible assumption | with_reducible refine sq_drew ?_))) ((first | (go_at_call 184; refine Calls.mono (HM.out _) ?_; rintro _ wa ⟨rfl, hb⟩; have hSwa := sq_next (by with_reducible assumption) hb; clear hb) | (go_at_call 188; refine Calls.mono (HC.out _) ?_; rintro _ wb ⟨rfl, hb⟩; have hSwb := sq_next (by with_reducible assumption) hb; clear hb)))
      go_wp2_with fail
      go_wp2_with fail
      rcases hcmp with ⟨h1, h2⟩ | h1 | ⟨h1, h2⟩
      · subst h1 h2
        go_region_held3 (fun W => (W.cell? ⟨w.heap.size, 0, none⟩ = some (.int .u64 (ah : Int)) ∧ W.cell? ⟨w.heap.size, 1, none⟩ = some (.int .u64 (al : Int)) ∧ (∀ o, W.frozen? ⟨w.heap.size, o, none⟩ = false) ∧ w.heap.size < W.heap.size) ∧ (W.cell? ⟨n6, 0, none⟩ = some (.int .u64 (ah : Int)) ∧ W.cell? ⟨n6, 1, none⟩ = some (.int .u64 (al : Int)) ∧ (∀ o, W.frozen? ⟨n6, o, none⟩ = false) ∧ n6 < W.heap.size) ∧ Below w.heap.size w W) ((repeat' (first | with_reducible assumption | with_reducible refine sq_drew ?_))) ((first | (go_at_call 184; refine Calls.mono (HM2.out _) ?_; rintro _ wc ⟨rfl, hb⟩; have hSwc := sq_next (by with_reducible assumption) hb; clear hb)))
        go_wp2_with fail
        go_ret2
        exact ⟨_, HRT.out, by omega, by rw [← HEQ.out]; first | rfl | (simp [*]; done), hSwc.2.2⟩
      · have h3 : decide (rh = ah) = false := by simp [h1]
        have h4 : (rh == ah) = false := by simp [h1]
        have h5 : ((rh : Int) == (ah : Int)) = false := by simp; omega
        have h6 : ¬ ((rh : Int) = (ah : Int)) := by omega
        go_region_held3 (fun W => (W.cell? ⟨w.heap.size, 0, none⟩ = some (.int .u64 (ah : Int)) ∧ W.cell? ⟨w.heap.size, 1, none⟩ = some (.int .u64 (al : Int)) ∧ (∀ o, W.frozen? ⟨w.heap.size, o, none⟩ = false) ∧ w.heap.size < W.heap.size) ∧ (W.cell? ⟨n6, 0, none⟩ = some (.int .u64 (ah : Int)) ∧ W.cell? ⟨n6, 1, none⟩ = some (.int .u64 (al : Int)) ∧ (∀ o, W.frozen? ⟨n6, o, none⟩ = false) ∧ n6 < W.heap.size) ∧ Below w.heap.size w W) ((repeat' (first | with_reducible assumption | with_reducible refine sq_drew ?_))) ((first | (go_at_call 184; refine Calls.mono (HM2.out _) ?_; rintro _ wc ⟨rfl, hb⟩; have hSwc := sq_next (by with_reducible assumption) hb; clear hb)))
        go_wp2_with fail
        go_ret2
        exact ⟨_, HRT.out, by omega, by rw [← HEQ.out]; first | rfl | (simp [*]; done), hSwc.2.2⟩
      · subst h1
        have h5 : ((rl : Int) == (al : Int)) = false := by simp; omega
        have h6 : ¬ ((rl : Int) = (al : Int)) := by omega
        go_region_held3 (fun W => (W.cell? ⟨w.heap.size, 0, none⟩ = some (.int .u64 (ah : Int)) ∧ W.cell? ⟨w.heap.size, 1, none⟩ = some (.int .u64 (al : Int)) ∧ (∀ o, W.frozen? ⟨w.heap.size, o, none⟩ = false) ∧ w.heap.size < W.heap.size) ∧ (W.cell? ⟨n6, 0, none⟩ = some (.int .u64 (ah : Int)) ∧ W.cell? ⟨n6, 1, none⟩ = some (.int .u64 (al : Int)) ∧ (∀ o, W.frozen? ⟨n6, o, none⟩ = false) ∧ n6 < W.heap.size) ∧ Below w.heap.size w W) ((repeat' (first | with_reducible assumption | with_reducible refine sq_drew ?_))) ((first | (go_at_call 184; refine Calls.mono (HM2.out _) ?_; rintro _ wc ⟨rfl, hb⟩; have hSwc := sq_next (by with_reducible assumption) hb; clear hb)))
        go_wp2_with fail
        go_ret2
        exact ⟨_, HRT.out, by omega, by rw [← HEQ.out]; first | rfl | (simp [*]; done), hSwc.2.2⟩


end Go.Proofs.Ygcoaj
