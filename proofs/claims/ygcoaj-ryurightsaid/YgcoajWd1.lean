/-
  WALKS: package wide: divHalf, Div.
-/
import Derived.Test.YgcoajWd0
import Derived.Test.YgcoajNat7
set_option linter.unusedVariables false
set_option linter.unusedSimpArgs false
namespace Go.Proofs.Ygcoaj
open Go.RowKit

theorem half_done {u2 u1 u0 d1 d0 q hi d U : Nat} (hg : Guessed u2 u1 u0 d1 d0 q) (hh : u2 * 4294967296 + u1 = hi) (hd : d1 * 4294967296 + d0 = d) (hU : hi * 4294967296 + u0 = U) (hlt : hi < d) (hu0 : u0 < 4294967296) : q = U / d ∧ U % d = U - q * d := by
  obtain ⟨h1, h2, h3⟩ := hg
  rw [hh, hd, hU] at h2 h3
  have h4 : U < (q + 1) * d := by
    rcases h3 with h3 | h3
    · subst h3
      have : (hi + 1) * 4294967296 ≤ d * 4294967296 := Nat.mul_le_mul_right _ hlt
      rw [Nat.mul_comm _ d]
      omega
    · exact h3
  have hpos : 0 < d := by omega
  have e1 : q = U / d := by
    have h5 := (Nat.le_div_iff_mul_le hpos).2 h2
    have h6 := (Nat.div_lt_iff_lt_mul hpos).2 h4
    omega
  refine ⟨e1, ?_⟩
  have := Nat.div_add_mod U d
  rw [e1, Nat.mul_comm (U / d)]
  omega
theorem half_wrap {hi u0 q d U r : Nat} (hU : hi * 4294967296 + u0 = U) (hq : q * d ≤ U) (hr : r = U - q * d) (hr64 : r < 18446744073709551616) :
    IntKind.u64.wrap (IntKind.u64.wrap (IntKind.u64.wrap ((hi : Int) * 4294967296) + (u0 : Int)) - IntKind.u64.wrap ((q : Int) * (d : Int))) = (r : Int) := by
  have e : ((q * d : Nat) : Int) = (q : Int) * (d : Int) := by push_cast; rfl
  rw [← e, IntKind.wrap_u64, IntKind.wrap_u64, IntKind.wrap_u64, IntKind.wrap_u64]
  generalize q * d = m at *
  omega

set_option maxRecDepth 100000 in
set_option maxHeartbeats 2000000 in
theorem divHalf_ok (hi u0 d : Nat) (hlt : hi < d) (hu0 : u0 < 4294967296) (hd : d < 18446744073709551616) (htop : 9223372036854775808 ≤ d) (w : World) :
    Calls Oajg.prog 206 #[.int .u64 (hi : Int), .int .u64 (u0 : Int), .int .u64 (d : Int)] w fun e w' => e = .returned (.tuple #[.int .u64 (((hi * 4294967296 + u0) / d : Nat) : Int), .int .u64 (((hi * 4294967296 + u0) % d : Nat) : Int)]) ∧ Below w.heap.size w w' := by
  obtain ⟨u2, hu2⟩ : ∃ u, u = hi / 4294967296 := ⟨_, rfl⟩
  obtain ⟨u1, hu1⟩ : ∃ u, u = hi % 4294967296 := ⟨_, rfl⟩
  obtain ⟨d1, hd1⟩ : ∃ u, u = d / 4294967296 := ⟨_, rfl⟩
  obtain ⟨d0, hd0⟩ : ∃ u, u = d % 4294967296 := ⟨_, rfl⟩
  have hh : u2 * 4294967296 + u1 = hi := by rw [hu2, hu1, Nat.mul_comm]; exact Nat.div_add_mod hi 4294967296
  have hdd : d1 * 4294967296 + d0 = d := by rw [hd1, hd0, Nat.mul_comm]; exact Nat.div_add_mod d 4294967296
  obtain ⟨U, hU⟩ : ∃ U, hi * 4294967296 + u0 = U := ⟨_, rfl⟩
  have HU2 : Hid (u2 ≤ d1) := by show u2 ≤ d1; rw [hu2, hd1]; exact Nat.div_le_div_right (Nat.le_of_lt hlt)
  have b1 : u1 < 4294967296 := by omega
  have b2 : d1 < 4294967296 := by omega
  have b3 : d0 < 4294967296 := by omega
  have b4 : 2147483648 ≤ d1 := by omega
  have kd1 : (d : Int) / 4294967296 = (d1 : Int) := by omega
  have kd0 : bits .and .u64 (d : Int) 4294967295 = (d0 : Int) := by rw [and32 d hd, hd0]
  have hg0 := guess0 HU2.out b1 b4 b2 hu0 b3 (u1 := u1) (u0 := u0)
  rw [hh] at hg0
  have HG0 : Hid (GuessAt u2 u1 u0 d1 d0 (hi / d1) (hi % d1)) := hg0
  have hhi64 : hi < 18446744073709551616 := by omega
  have k2 : (hi : Int).tdiv (d1 : Int) = ((hi / d1 : Nat) : Int) := by rw [Int.tdiv_eq_ediv_of_nonneg (by omega)]; rfl
  have k3 : (hi : Int).tmod (d1 : Int) = ((hi % d1 : Nat) : Int) := by rw [Int.tmod_eq_emod_of_nonneg (by omega)]; rfl
  have k4 : (hi : Int) / (d1 : Int) = ((hi / d1 : Nat) : Int) := rfl
  have k5 : (hi : Int) % (d1 : Int) = ((hi % d1 : Nat) : Int) := rfl
  have bb1 : hi / d1 < 18446744073709551616 := by have := Nat.div_le_self hi d1; omega
  have bb2 : hi % d1 < 4294967296 := by have := Nat.mod_lt hi (show d1 > 0 by omega); omega
  have hd0' : ((d1 : Int) == 0) = false := by simp; omega
  have HEND : Hid (∀ q, Guessed u2 u1 u0 d1 d0 q → q = U / d ∧ q < 4294967296 ∧ IntKind.u64.wrap (IntKind.u64.wrap (IntKind.u64.wrap ((hi : Int) * 4294967296) + (u0 : Int)) - IntKind.u64.wrap ((q : Int) * (d : Int))) = ((U % d : Nat) : Int)) := fun q hq => by
    obtain ⟨e1, e2⟩ := half_done hq hh hdd hU hlt hu0
    have hm := Nat.mod_lt U (show d > 0 by omega)
    have hle : q * d ≤ U := by rw [e1]; exact Nat.div_mul_le_self U d
    exact ⟨e1, hq.lt, half_wrap hU hle e2 (by omega)⟩
  rw [hU]
  obtain ⟨QQ, HQQ⟩ : ∃ QQ, Hid (U / d = QQ) := ⟨_, rfl⟩
  obtain ⟨RM, HRM⟩ : ∃ RM, Hid (U % d = RM) := ⟨_, rfl⟩
  rw [HQQ.out, HRM.out] at HEND
  rw [HQQ.out, HRM.out]
  generalize hi / d1 = Q at *
  generalize hi % d1 = Rr at *
  clear hu2 hu1 hd1 hd0 hh hdd hU hg0
  go_enter Oajg.func206, Oajg.ntmps206
  go_wp2_with fail
  go_quiet (fail)
  go_wp2_with fail
  clear k2 k3 k4 k5
  go_loop [6, 10] (fun i j => ∃ est rest : Nat, i = .int .u64 (est : Int) ∧ j = .int .u64 (rest : Int) ∧ GuessAt u2 u1 u0 d1 d0 est rest) (fun i _ => (intOf i).toNat)
  case atStart => exact ⟨Q, Rr, rfl, rfl, HG0.out⟩
  case round =>
    clear HG0
    obtain ⟨est, rest, rfl, rfl, hg⟩ := hrel
    have hr32 := hg.r32
    have hle := hg.le
    obtain ⟨S, hS⟩ : ∃ S, S = rest * 4294967296 + u0 := ⟨_, rfl⟩
    have hor := or32 rest u0 hr32 hu0
    rw [← hS] at hor
    have S64 : (S : Int) < 18446744073709551616 := by omega
    have r32 : (rest : Int) < 4294967296 := by omega
    have e33 : (est : Int) ≤ 4294967297 := by omega
    by_cases hc : 4294967296 ≤ est
    · obtain ⟨hne, hmore, hend⟩ := guess_back hg HU2.out b1 b2 b4 b3 hu0 (Or.inl hc)
      have hcI : (4294967295 : Int) < (est : Int) := by omega
      obtain ⟨e1, he1⟩ : ∃ e1, e1 = est - 1 := ⟨_, rfl⟩
      have k7 : (est : Int) - 1 = (e1 : Int) := by omega
      have HLT : Hid (e1 < est) := by show e1 < est; omega
      rw [← he1] at hmore hend
      by_cases hb : 4294967296 ≤ rest + d1
      · obtain ⟨f1, f2, f3⟩ := HEND.out e1 (hend hb)
        have HF1 : Hid (e1 = QQ) := f1
        have hbI : (4294967295 : Int) < (rest : Int) + (d1 : Int) := by omega
        clear hg hmore hend hc hb hle hr32 he1 hne hS f1 hor
        go_wp2_with fail
        go_ret2
        exact ⟨by rw [← HF1.out]; first | rfl | (rw [f3]), below_drewN (Below.refl _ _) _⟩
      · have HM : Hid (GuessAt u2 u1 u0 d1 d0 e1 (rest + d1)) := hmore (by omega)
        have hbI : decide ((4294967295 : Int) < (rest : Int) + (d1 : Int)) = false := by rw [decide_eq_false_iff_not]; omega
        clear hg hmore hend hc hb hle hr32 he1 hne hS hor
        go_wp2_with fail
        go_round
        case rel => exact ⟨e1, rest + d1, by go_num, by go_num, HM.out⟩
        case measure => simp [intOf]; exact HLT.out
    · have hcI : decide ((4294967295 : Int) < (est : Int)) = false := by rw [decide_eq_false_iff_not]; omega
      have hcI2 : (est : Int) < 4294967296 := by omega
      have hmul : est * d0 ≤ 4294967295 * 4294967295 := Nat.mul_le_mul (by omega) (by omega)
      obtain ⟨m, hm⟩ : ∃ m : Nat, m = est * d0 := ⟨_, rfl⟩
      rw [← hm] at hmul
      have k6 : (est : Int) * (d0 : Int) = (m : Int) := by rw [hm]; push_cast; rfl
      have m64 : (m : Int) < 18446744073709551616 := by omega
      by_cases hgt : S < m
      · obtain ⟨hne, hmore, hend⟩ := guess_back hg HU2.out b1 b2 b4 b3 hu0 (Or.inr (by rw [← hm, ← hS]; exact hgt))
        have hgI : (S : Int) < (m : Int) := by omega
        obtain ⟨e1, he1⟩ : ∃ e1, e1 = est - 1 := ⟨_, rfl⟩
        have k7 : (est : Int) - 1 = (e1 : Int) := by omega
        have HLT : Hid (e1 < est) := by show e1 < est; omega
        rw [← he1] at hmore hend
        by_cases hb : 4294967296 ≤ rest + d1
        · obtain ⟨f1, f2, f3⟩ := HEND.out e1 (hend hb)
          have HF1 : Hid (e1 = QQ) := f1
          have hbI : (4294967295 : Int) < (rest : Int) + (d1 : Int) := by omega
          clear hg hmore hend hm hc hb hle hr32 he1 hne hgt hmul hS f1
          go_wp2_with fail
          go_ret2
          exact ⟨by rw [← HF1.out]; first | rfl | (rw [f3]), below_drewN (Below.refl _ _) _⟩
        · have HM : Hid (GuessAt u2 u1 u0 d1 d0 e1 (rest + d1)) := hmore (by omega)
          have hbI : decide ((4294967295 : Int) < (rest : Int) + (d1 : Int)) = false := by rw [decide_eq_false_iff_not]; omega
          clear hg hmore hend hm hc hb hle hr32 he1 hne hgt hmul hS
          go_wp2_with fail
          go_round
          case rel => exact ⟨e1, rest + d1, by go_num, by go_num, HM.out⟩
          case measure => simp [intOf]; exact HLT.out
      · obtain ⟨f1, f2, f3⟩ := HEND.out est (guess_end hg (by omega) (by rw [← hm, ← hS]; omega))
        have HF1 : Hid (est = QQ) := f1
        have hgI : decide ((S : Int) < (m : Int)) = false := by rw [decide_eq_false_iff_not]; omega
        have hgN : decide (S < m) = false := by rw [decide_eq_false_iff_not]; omega
        have hgL : m ≤ S := by omega
        clear hg hm hc hle hr32 hgt hmul hS e33 f1
        go_wp2_with fail
        go_ret2
        exact ⟨by rw [← HF1.out]; first | rfl | (rw [f3]), below_drewN (Below.refl _ _) _⟩


/-! ### Div -/
theorem div_halves {hi lo d q1 r1 q0 r0 : Nat} (hlo : lo < 18446744073709551616) (h1 : q1 = (hi * 4294967296 + lo / 4294967296) / d) (h2 : r1 = (hi * 4294967296 + lo / 4294967296) % d)
    (h3 : q0 = (r1 * 4294967296 + lo % 4294967296) / d) (h4 : r0 = (r1 * 4294967296 + lo % 4294967296) % d) (hd : 0 < d) (hlt : hi < d) :
    q1 * 4294967296 + q0 = w128 hi lo / d ∧ r0 = w128 hi lo % d ∧ q1 < 4294967296 ∧ q0 < 4294967296 ∧ r1 < d ∧ r0 < d := by
  have e1 := Nat.div_add_mod (hi * 4294967296 + lo / 4294967296) d
  have e2 := Nat.div_add_mod (r1 * 4294967296 + lo % 4294967296) d
  rw [← h1, ← h2] at e1
  rw [← h3, ← h4] at e2
  have m1 : r1 < d := by rw [h2]; exact Nat.mod_lt _ hd
  have m0 : r0 < d := by rw [h4]; exact Nat.mod_lt _ hd
  have eA : w128 hi lo = d * (q1 * 4294967296 + q0) + r0 := by
    have e3 : w128 hi lo = (hi * 4294967296 + lo / 4294967296) * 4294967296 + lo % 4294967296 := by unfold w128; omega
    rw [e3, ← e1, Nat.add_mul, Nat.add_assoc, ← e2, Nat.mul_add, Nat.mul_assoc]
    omega
  have f1 : q1 < 4294967296 := by
    rw [h1]
    refine (Nat.div_lt_iff_lt_mul hd).2 ?_
    have : (hi + 1) * 4294967296 ≤ d * 4294967296 := Nat.mul_le_mul_right _ hlt
    rw [Nat.mul_comm 4294967296 d]
    omega
  have f0 : q0 < 4294967296 := by
    rw [h3]
    refine (Nat.div_lt_iff_lt_mul hd).2 ?_
    have : (r1 + 1) * 4294967296 ≤ d * 4294967296 := Nat.mul_le_mul_right _ m1
    rw [Nat.mul_comm 4294967296 d]
    omega
  refine ⟨?_, ?_, f1, f0, m1, m0⟩
  · rw [eA, Nat.mul_add_div hd, Nat.div_eq_of_lt m0, Nat.add_zero]
  · rw [eA, Nat.mul_add_mod, Nat.mod_eq_of_lt m0]

set_option maxRecDepth 100000 in
set_option maxHeartbeats 2000000 in
theorem wdiv_ok (ah al d : Nat) (h2 : al < 18446744073709551616) (hd : d < 18446744073709551616) (hlt : ah < d) (w : World) :
    Calls Oajg.prog 185 #[.agg #[.int .u64 (ah : Int), .int .u64 (al : Int)], .int .u64 (d : Int)] w fun e w' => e = .returned (.tuple #[.int .u64 ((w128 ah al / d : Nat) : Int), .int .u64 ((w128 ah al % d : Nat) : Int), .bool true]) ∧ Below w.heap.size w w' := by
  have hd0 : d ≠ 0 := by omega
  have hl := bitLen_lt d
  have hg := bitLen_le hd0
  have hp := bitLen_pos hd0
  have hL : bitLen d ≤ 64 := bitLen_le_of_lt (n := 64) hd
  have HCL : Hid (∀ w, Calls Oajg.prog 133 #[.int .u64 (d : Int)] w fun e w' => e = .returned (.int .u8 ((64 - bitLen d : Nat) : Int)) ∧ w' = w) := clz_ok d hd hd0
  obtain ⟨s, hs⟩ : ∃ s, s = 64 - bitLen d := ⟨_, rfl⟩
  rw [← hs] at HCL
  obtain ⟨D, hD⟩ : ∃ D, D = d * 2 ^ s := ⟨_, rfl⟩
  have e64 : 2 ^ bitLen d * 2 ^ s = 18446744073709551616 := by rw [← Nat.pow_add, show bitLen d + s = 64 by omega]
  have e63 : 2 ^ (bitLen d - 1) * 2 ^ s = 9223372036854775808 := by rw [← Nat.pow_add, show bitLen d - 1 + s = 63 by omega]
  have hD64 : D < 18446744073709551616 := by rw [hD, ← e64]; exact Nat.mul_lt_mul_of_pos_right hl (pp s)
  have hD63 : 9223372036854775808 ≤ D := by rw [hD, ← e63]; exact Nat.mul_le_mul_right _ hg
  have kD : IntKind.u64.wrap ((d : Int) * 2 ^ s) = (D : Int) := wrap64' (by rw [hD]; push_cast; rfl) hD64
  have hA : w128 ah al < d * 18446744073709551616 := by
    unfold w128
    have : (ah + 1) * 18446744073709551616 ≤ d * 18446744073709551616 := Nat.mul_le_mul_right _ hlt
    omega
  have hA2 : w128 ah al * 2 ^ s < D * 18446744073709551616 := by
    have := Nat.mul_lt_mul_of_pos_right hA (pp s)
    rw [Nat.mul_right_comm, ← hD] at this
    exact this
  have hno : w128 ah al * 2 ^ s < 18446744073709551616 * 18446744073709551616 := Nat.lt_trans hA2 (Nat.mul_lt_mul_of_pos_right hD64 (by decide))
  have HSH0 := wshl_ok ah al s (by omega) h2 (by omega) hno
  obtain ⟨H, hH⟩ : ∃ H, H = w128 ah al * 2 ^ s / 18446744073709551616 := ⟨_, rfl⟩
  obtain ⟨L, hLo⟩ : ∃ L, L = w128 ah al * 2 ^ s % 18446744073709551616 := ⟨_, rfl⟩
  rw [← hH, ← hLo] at HSH0
  have HSH : Hid (∀ w, Calls Oajg.prog 187 #[.agg #[.int .u64 (ah : Int), .int .u64 (al : Int)], .int .u8 (s : Int)] w fun e w' => e = .returned (.agg #[.int .u64 (H : Int), .int .u64 (L : Int)]) ∧ Below w.heap.size w w') := HSH0
  have hL64 : L < 18446744073709551616 := by rw [hLo]; exact Nat.mod_lt _ (by decide)
  have hHD : H < D := by
    rw [hH]
    refine Nat.div_lt_of_lt_mul ?_
    rw [Nat.mul_comm 18446744073709551616]; exact hA2
  have hHL : w128 H L = w128 ah al * 2 ^ s := by
    rw [hH, hLo]
    unfold w128
    have := Nat.div_add_mod ((ah * 18446744073709551616 + al) * 2 ^ s) 18446744073709551616
    rw [Nat.mul_comm]; exact this
  obtain ⟨q1, hq1⟩ : ∃ q, q = (H * 4294967296 + L / 4294967296) / D := ⟨_, rfl⟩
  obtain ⟨r1, hr1⟩ : ∃ q, q = (H * 4294967296 + L / 4294967296) % D := ⟨_, rfl⟩
  obtain ⟨q0, hq0⟩ : ∃ q, q = (r1 * 4294967296 + L % 4294967296) / D := ⟨_, rfl⟩
  obtain ⟨r0, hr0⟩ : ∃ q, q = (r1 * 4294967296 + L % 4294967296) % D := ⟨_, rfl⟩
  obtain ⟨g1, g2, g3, g4, g5, g6⟩ := div_halves hL64 hq1 hr1 hq0 hr0 (by omega) hHD
  rw [hHL, hD, Nat.mul_div_mul_right _ _ (pp s)] at g1
  rw [hHL, hD, Nat.mul_mod_mul_right] at g2
  have HV1 : Hid (∀ w, Calls Oajg.prog 206 #[.int .u64 (H : Int), .int .u64 ((L : Int) / 4294967296), .int .u64 (D : Int)] w fun e w' => e = .returned (.tuple #[.int .u64 (q1 : Int), .int .u64 (r1 : Int)]) ∧ Below w.heap.size w w') := fun w => by
    have := divHalf_ok H (L / 4294967296) D hHD (by omega) hD64 hD63 w
    rw [← hq1, ← hr1] at this
    exact this
  have HV0 : Hid (∀ w, Calls Oajg.prog 206 #[.int .u64 (r1 : Int), .int .u64 ((L % 4294967296 : Nat) : Int), .int .u64 (D : Int)] w fun e w' => e = .returned (.tuple #[.int .u64 (q0 : Int), .int .u64 (r0 : Int)]) ∧ Below w.heap.size w w') := fun w => by
    have := divHalf_ok r1 (L % 4294967296) D g5 (by omega) hD64 hD63 w
    rw [← hq0, ← hr0] at this
    exact this
  have kL := and32 L hL64
  obtain ⟨L0, hL0⟩ : ∃ x, x = L % 4294967296 := ⟨_, rfl⟩
  rw [← hL0] at kL HV0
  obtain ⟨Q, hQ⟩ : ∃ Q, Q = w128 ah al / d := ⟨_, rfl⟩
  obtain ⟨R, hR⟩ : ∃ R, R = w128 ah al % d := ⟨_, rfl⟩
  have kQ := or32 q1 q0 g3 g4
  rw [g1, ← hQ] at kQ
  have kR : (r0 : Int) / 2 ^ s = (R : Int) := by
    have e : (r0 : Int) / 2 ^ s = ((r0 / 2 ^ s : Nat) : Int) := by push_cast; rfl
    rw [e, g2, Nat.mul_div_cancel _ (pp s), hR]
  have hr064 : r0 < 18446744073709551616 := by omega
  have hB := bx2_made w (m := w.heap.size) (.int .u64 (ah : Int)) (.int .u64 (al : Int)) 88 rfl
  have HB0 : Hid (Below w.heap.size w (w.alloc (.cells #[.int .u64 (ah : Int), .int .u64 (al : Int)] 88))) := (Below.refl _ _).alloc (Nat.le_refl _) _
  have hltI : (ah : Int) < (d : Int) := by omega
  have hs63 : s ≤ 63 := by omega
  rw [← hQ, ← hR]
  clear hs hD e64 e63 hA hA2 hno HSH0 hH hLo hHL hq1 hr1 hq0 hr0 g1 g2 hL0 hQ hR hl hg hp hL
  go_enter Oajg.func185, Oajg.ntmps185
  go_wp2_with fail
  refine Calls.mono (HCL.out _) ?_
  rintro _ w0 ⟨rfl, hw⟩
  subst w0
  go_wp2_with fail
  refine Calls.mono (HSH.out _) ?_
  rintro _ w1 ⟨rfl, hb⟩
  replace hB := bx2_next hB hb
  have hB2 := bx2_store hB (.int .u64 (H : Int)) (.int .u64 (L : Int))
  have HB1 : Hid (Below w.heap.size w ((w1.setCell ⟨w.heap.size, 0, none⟩ (.int .u64 (H : Int))).setCell ⟨w.heap.size, 1, none⟩ (.int .u64 (L : Int)))) := ((below_then HB0.out hb).setCell (Nat.le_refl _) _).setCell (Nat.le_refl _) _
  clear hb
  go_wp2_with fail
  generalize ((w1.setCell ⟨w.heap.size, 0, none⟩ (.int .u64 (H : Int))).setCell ⟨w.heap.size, 1, none⟩ (.int .u64 (L : Int))) = W2 at *
  refine Calls.mono (HV1.out _) ?_
  rintro _ w3 ⟨rfl, hb⟩
  replace hB2 := bx2_next hB2 hb
  have HB3 : Hid (Below w.heap.size w w3) := below_then HB1.out hb
  clear hb hB
  go_wp2_with fail
  refine Calls.mono (HV0.out _) ?_
  rintro _ w4 ⟨rfl, hb⟩
  have HB4 : Hid (Below w.heap.size w w4) := below_then HB3.out hb
  clear hb hB2
  go_wp2_with fail
  go_ret3
  exact ⟨rfl, HB4.out⟩

end Go.Proofs.Ygcoaj
