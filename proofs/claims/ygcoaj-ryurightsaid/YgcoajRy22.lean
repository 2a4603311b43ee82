/-
  WALKS: ryu.Scale (158).
-/
import Derived.Test.YgcoajRy19
import Derived.Test.YgcoajRy10
import Derived.Test.YgcoajBn1
import Derived.BigQuiet
set_option linter.unusedVariables false
set_option linter.unusedSimpArgs false
namespace Go.Proofs.Ygcoaj
open Go.RowKit

theorem field88_1 (h l : Int) : ∀ w : World, (Instr.field 88 (.agg #[.int .u64 h, .int .u64 l]) 1).run Oajg.prog w = .ok (.int .u64 l) w := fun _ => by kernel_rfl

/-- the whole flag -/
theorem whole_hi {e q : Int} {m : Nat} (hq : 1 ≤ q) (hqe : q ≤ e) : trN e q m % trD e q = 0 ↔ 5 ^ q.toNat ∣ m := by
  unfold trN trD
  rw [show (-q).toNat = 0 from by omega, show (-e).toNat = 0 from by omega, Nat.pow_zero, Nat.mul_one, Nat.one_mul, ten_pow]
  obtain ⟨k, hk⟩ : ∃ k, e.toNat = q.toNat + k := ⟨e.toNat - q.toNat, by omega⟩
  rw [hk, Nat.pow_add, ← Nat.mul_assoc, Nat.mul_right_comm m, Nat.mul_mod_mul_right, Nat.mul_eq_zero]
  have hp : ¬ 2 ^ q.toNat = 0 := Nat.ne_of_gt (Nat.pow_pos (by decide))
  constructor
  · rintro (h | h)
    · have hc : Nat.Coprime (5 ^ q.toNat) (2 ^ k) := Nat.Coprime.pow _ _ (by decide)
      exact hc.dvd_of_dvd_mul_right (Nat.dvd_of_mod_eq_zero h)
    · exact absurd h hp
  · intro h
    exact Or.inl (Nat.mod_eq_zero_of_dvd (Nat.dvd_trans h (Nat.dvd_mul_right _ _)))
theorem whole_in {e q : Int} {m : Nat} (hq : q ≤ 0) (hqe : q ≤ e) : trN e q m % trD e q = 0 := by
  unfold trN trD
  rw [show q.toNat = 0 from by omega, Nat.pow_zero, Nat.mul_one]
  refine Nat.mod_eq_zero_of_dvd ?_
  refine Nat.dvd_trans ?_ (Nat.dvd_mul_left _ _)
  rw [ten_pow]
  exact Nat.dvd_trans (Nat.pow_dvd_pow 2 (by omega)) (Nat.dvd_mul_left _ _)
theorem whole_lo {e q : Int} {m t : Nat} (hq : q ≤ 0) (ht : (t : Int) = q - e) : trN e q m % trD e q = 0 ↔ m % 2 ^ t = 0 := by
  unfold trN trD
  rw [show q.toNat = 0 from by omega, Nat.pow_zero, Nat.mul_one, show e.toNat = 0 from by omega, Nat.pow_zero, Nat.mul_one, ten_pow, show (-e).toNat = t + (-q).toNat from by omega, Nat.pow_add, ← Nat.mul_assoc, Nat.mul_mod_mul_right, Nat.mul_eq_zero]
  have hp : ¬ 2 ^ (-q).toNat = 0 := Nat.ne_of_gt (Nat.pow_pos (by decide))
  constructor
  · rintro (h | h)
    · have hc : Nat.Coprime (2 ^ t) (5 ^ (-q).toNat) := Nat.Coprime.pow _ _ (by decide)
      exact Nat.mod_eq_zero_of_dvd (hc.dvd_of_dvd_mul_right (Nat.dvd_of_mod_eq_zero h))
    · exact absurd h hp
  · intro h
    exact Or.inl (Nat.mod_eq_zero_of_dvd (Nat.dvd_trans (Nat.dvd_of_mod_eq_zero h) (Nat.dvd_mul_right _ _)))

theorem wd_one {x : Nat} (h : x < 18446744073709551616) : Wd 0 x x := ⟨by decide, h, by unfold w128; rw [Nat.zero_mul, Nat.zero_add]⟩
theorem wd_small {hi lo A : Nat} (h : Wd hi lo A) (hA : A < 18446744073709551616) : lo = A := by
  obtain ⟨h1, h2, h3⟩ := h
  unfold w128 at h3
  omega
theorem hi_part {m th tl T : Nat} (h : Wd th tl T) : m * th + m * tl / 18446744073709551616 = m * T / 18446744073709551616 := by
  obtain ⟨h1, h2, h3⟩ := h
  unfold w128 at h3
  rw [← h3, Nat.mul_add, show m * (th * 18446744073709551616) = (m * th) * 18446744073709551616 from by rw [Nat.mul_assoc], Nat.add_comm (m * th * _), Nat.add_mul_div_right _ _ (by decide), Nat.add_comm]

theorem set_at {W : World} {p q : Addr} {u v : Value} (h : W.cell? q = some u) : (W.setCell p v).cell? q = some (if p = q then v else u) := by
  by_cases hpq : p = q
  · subst hpq; rw [if_pos rfl]; simp [go_sem, h]
  · rw [if_neg hpq, other _ _ hpq, h]
theorem set4 {wa : World} {q p1 p2 p3 p4 : Addr} {v1 v2 v3 v4 z y : Value} (hz : wa.cell? q = some z) (hy : (if p4 = q then v4 else if p3 = q then v3 else if p2 = q then v2 else if p1 = q then v1 else z) = y) :
    ((((wa.setCell p1 v1).setCell p2 v2).setCell p3 v3).setCell p4 v4).cell? q = some y := by
  rw [set_at (set_at (set_at (set_at hz))), hy]

set_option maxRecDepth 100000 in
set_option maxHeartbeats 8000000 in
theorem scale_ok (tb t : Nat) (C : Array Value) (hC : TabAt C) (m : Nat) (e : Int) (hm0 : 0 < m) (hm : m < 36028797018963968) (he1 : -1100 ≤ e) (he2 : e ≤ 1030) (w : World) (hB : Blk w tb C t) :
    Calls Oajg.prog 158 #[.pointer (some ⟨tb, 0, none⟩), .int .u64 (m : Int), .int .i16 e] w fun x w' => x = .returned (.tuple #[.int .u64 ((trN e (l10 e - 1) m / trD e (l10 e - 1) : Nat) : Int), .bool (decide (trN e (l10 e - 1) m % trD e (l10 e - 1) = 0))]) ∧ Below w.heap.size w w' := by
  obtain ⟨hs1, hs2, hsc⟩ := scale_exact he1 he2
  replace hsc := hsc m hm0 hm
  have HLG := hid_mk (log10Pow2_ok e he1 he2)
  obtain ⟨q, hq⟩ : ∃ q, q = l10 e - 1 := ⟨_, rfl⟩
  have hqd : l10 e = q + 1 := by omega
  have hl10 : q = e * 315653 / 1048576 - 1 := by rw [hq]; rfl
  rw [← hq] at hs1 hs2 hsc ⊢
  rw [hqd] at HLG
  have hq1 : -348 ≤ -q := by omega
  have hq2 : -q ≤ 347 := by omega
  have hqe : 1 ≤ q → q ≤ e := by intro h; omega
  clear hl10 hq hqd
  have hfit := fits_all hq1 hq2
  have HAT := hid_mk (fun (W : World) (hW : Blk W tb C t) => at_ok (-q) hq1 hq2 tb t C hC W hW)
  have hsS : scS e q = -(e + tnE (-q)) := rfl
  have hT : scT q = tnM (-q) + (if 0 < q then 1 else 0) := rfl
  obtain ⟨T0, hT0⟩ : ∃ T0, T0 = tnM (-q) := ⟨_, rfl⟩
  obtain ⟨X, hX⟩ : ∃ X, X = tnE (-q) := ⟨_, rfl⟩
  obtain ⟨T, hTT⟩ : ∃ T, T = scT q := ⟨_, rfl⟩
  obtain ⟨s, hs⟩ : ∃ s : Nat, (s : Int) = scS e q := ⟨(scS e q).toNat, by omega⟩
  rw [← hT0, ← hX] at HAT
  rw [← hT0, ← hX] at hfit
  rw [← hX] at hsS
  rw [← hT0, ← hTT] at hT
  rw [show (scS e q).toNat = s from by omega, ← hTT] at hsc
  have hT128 : T < 18446744073709551616 * 18446744073709551616 := by rw [hT]; split <;> omega
  have HFT := hid_mk (fits_ok (T0 / 18446744073709551616) (T0 % 18446744073709551616) X hfit.1 hfit.2.1 (Nat.mod_lt _ (by decide)) (by omega) hfit.2.2.2.1 hfit.2.2.2.2)
  have kx1 : IntKind.i16.wrap (e + X) = e + X := by rw [i16_wrap]; omega
  have ks : -(e + X) = (s : Int) := by omega
  have kx2 : IntKind.i16.wrap (s : Int) = (s : Int) := by rw [i16_wrap]; omega
  have hs121 : 121 ≤ s := by omega
  have hs124 : s ≤ 124 := by omega
  have hWd0 : Wd (T0 / 18446744073709551616) (T0 % 18446744073709551616) T0 := wd_split (by omega)
  have HADD : Hid (0 < q → ∀ w, Calls Oajg.prog 191 #[.agg #[.int .u64 ((T0 / 18446744073709551616 : Nat) : Int), .int .u64 ((T0 % 18446744073709551616 : Nat) : Int)], .agg #[.int .u64 0, .int .u64 1]] w fun e w' => ∃ hi lo : Nat, Wd hi lo T ∧ e = .returned (.tuple #[.agg #[.int .u64 (hi : Int), .int .u64 (lo : Int)], .bool false]) ∧ Below w.heap.size w w') := fun hq0 W => by
    have := wadd_ok _ _ 0 1 T0 1 hWd0 ⟨by decide, by decide, by unfold w128; rfl⟩ (by omega) W
    rw [hT, if_pos hq0]
    exact this
  have hWdT : ¬ 0 < q → Wd (T0 / 18446744073709551616) (T0 % 18446744073709551616) T := fun h => by rw [hT, if_neg h]; exact hWd0
  -- the product
  have hmT : m * T / 2 ^ s < 18446744073709551616 := by
    have p1 : 2 ^ 121 ≤ 2 ^ s := Nat.pow_le_pow_right (by decide) hs121
    rw [Nat.div_lt_iff_lt_mul (Nat.lt_of_lt_of_le (by decide) p1)]
    have p2 : m * T ≤ 36028797018963968 * (18446744073709551616 * 18446744073709551616) := Nat.mul_le_mul (Nat.le_of_lt hm) (Nat.le_of_lt hT128)
    have p3 : 18446744073709551616 * 2 ^ 121 ≤ 18446744073709551616 * 2 ^ s := Nat.mul_le_mul_left _ p1
    omega
  obtain ⟨V, hV⟩ : ∃ V, V = trN e q m / trD e q := ⟨_, rfl⟩
  rw [← hV] at hsc ⊢
  have hsh : m * T / 18446744073709551616 / 2 ^ (s - 64) = V := by
    rw [Nat.div_div_eq_div_mul, show (18446744073709551616 : Nat) = 2 ^ 64 from rfl, ← Nat.pow_add, show 64 + (s - 64) = s from by omega]; exact hsc
  have hV64 : V < 18446744073709551616 := by rw [← hsc]; exact hmT
  obtain ⟨B, hBw⟩ : ∃ B, B = decide (trN e q m % trD e q = 0) := ⟨_, rfl⟩
  rw [← hBw]
  have kq1 : IntKind.i16.wrap q = q := by rw [i16_wrap]; omega
  have kq2 : IntKind.i16.wrap (-q) = -q := by rw [i16_wrap]; omega
  have kq3 : IntKind.i16.wrap (q + 1) = q + 1 := by rw [i16_wrap]; omega
  have kqe : IntKind.i16.wrap (q - e) = q - e := by rw [i16_wrap]; omega
  have b1 : ((m : Int) == 0) = false := by rw [beq_eq_false_iff_ne]; omega
  have b2 : decide (36028797018963968 ≤ (m : Int)) = false := decide_eq_false (by omega)
  have b3 : decide (e < -1100) = false := decide_eq_false (by omega)
  have b4 : decide (1030 < e) = false := decide_eq_false (by omega)
  have b5 : decide ((s : Int) < 1) = false := decide_eq_false (by omega)
  have b6 : decide (191 < (s : Int)) = false := decide_eq_false (by omega)
  have b7 : decide (64 ≤ (s : Int)) = true := decide_eq_true (by omega)
  have HBW := hid_mk hBw
  have HWT := hid_mk hWdT
  have HSH := hid_mk hsh
  have HBK := hid_mk hB
  have HQE := hid_mk hqe
  clear hsc hmT hBw hWdT hWd0 hT hsS hs hs1 hs2 hfit hC hX hT0 hTT hB hsh hV hqe
  generalize T0 / 18446744073709551616 = T0h at *
  generalize T0 % 18446744073709551616 = T0l at *
  go_enter Oajg.func158, Oajg.ntmps158
  go_wp2_with fail
  refine Calls.mono (HLG.out _) ?_
  rintro _ w1 ⟨rfl, rfl⟩
  clear HLG
  go_wp2_with fail
  refine Calls.mono (HAT.out _ HBK.out) ?_
  rintro _ w2 ⟨rfl, hb⟩
  have hS := bx2_made w2 (m := w2.heap.size) (.int .u64 (T0h : Int)) (.int .u64 (T0l : Int)) 88 rfl
  have HB9 := hid_mk (below_then hb ((Below.refl w2.heap.size w2).alloc (Nat.le_refl _) (.cells #[.int .u64 (T0h : Int), .int .u64 (T0l : Int)] 88)))
  have hle : w1.heap.size ≤ w2.heap.size := hb.size
  clear hb HAT HBK
  go_wp2_with fail
  generalize w2.alloc (.cells #[.int .u64 (T0h : Int), .int .u64 (T0l : Int)] 88) = w3 at *
  generalize w2.heap.size = b9 at *
  refine Calls.mono (HFT.out _) ?_
  rintro _ w4 ⟨rfl, hb⟩
  replace hS := bx2_next hS hb
  replace HB9 := hid_mk (below_then HB9.out hb)
  clear hb HFT
  go_upto_if 61 with (fail)
  go_cut [62] (fun _ W => ∃ th tl : Nat, Wd th tl T ∧ (W.cell? ⟨b9, 0, none⟩ = some (.int .u64 (th : Int)) ∧ W.cell? ⟨b9, 1, none⟩ = some (.int .u64 (tl : Int)) ∧ (∀ o, W.frozen? ⟨b9, o, none⟩ = false) ∧ b9 < W.heap.size) ∧ Below w1.heap.size w1 W)
  case first =>
    by_cases hq0 : 0 < q
    · have c1 : decide (0 < q) = true := decide_eq_true hq0
      go_wp2_with fail
      refine Calls.mono (HADD.out hq0 _) ?_
      rintro _ w5 ⟨hi, lo, hwd, rfl, hb⟩
      replace hS := bx2_next hS hb
      replace HB9 := hid_mk (below_then HB9.out hb)
      have HWD := hid_mk hwd
      clear hb HADD hwd
      go_wp2_with fail
      go_meet
      exact ⟨hi, lo, HWD.out, bx2_put hS _ _, (HB9.out.setCell (p := ⟨b9, 0, none⟩) hle _).setCell (p := ⟨b9, 1, none⟩) hle _⟩
    · have c1 : decide (0 < q) = false := decide_eq_false hq0
      go_wp2_with fail
      go_meet
      exact ⟨T0h, T0l, HWT.out hq0, hS, HB9.out⟩
  case rest =>
  clear hS HB9 HADD HWT
  obtain ⟨th, tl, hwd, hS⟩ := hcut
  have HMA := hid_mk (mul64_ok m tl (by omega) hwd.2.1)
  have HMB := hid_mk (mul64_ok m th (by omega) hwd.1)
  have hsum := hi_part (m := m) hwd
  have hmth : m * th ≤ 36028797018963968 * 18446744073709551616 := Nat.mul_le_mul (Nat.le_of_lt hm) (Nat.le_of_lt hwd.1)
  have hmtl : m * tl ≤ 36028797018963968 * 18446744073709551616 := Nat.mul_le_mul (Nat.le_of_lt hm) (Nat.le_of_lt hwd.2.1)
  have hwA : Wd (m * th / 18446744073709551616) (m * th % 18446744073709551616) (m * th) := wd_split (by omega)
  have hLH : m * tl / 18446744073709551616 < 18446744073709551616 := by omega
  obtain ⟨PA, hPA⟩ : ∃ PA, PA = m * th := ⟨_, rfl⟩
  rw [← hPA] at HMB hsum hmth hwA
  clear hPA hmtl
  generalize m * tl / 18446744073709551616 = LH at *
  generalize m * tl % 18446744073709551616 = LL at *
  have HA2 := hid_mk (wadd_ok (PA / 18446744073709551616) (PA % 18446744073709551616) 0 LH PA LH hwA (wd_one hLH) (by omega))
  have HSM := hid_mk hsum
  clear hwA hsum hwd hmth
  generalize PA / 18446744073709551616 = HH at *
  generalize PA % 18446744073709551616 = HL at *
  have hn0 := hS.1.2.2.2
  have hlt2 : ∀ n : Nat, n < n + 1 + 1 := fun n => by omega
  go_wp2_with fail
  go_cut [13, 14] (fun s13 s14 W => ∃ p r : Nat, s13 = .pointer (some ⟨p, 0, none⟩) ∧ s14 = .pointer (some ⟨r, 0, none⟩) ∧ p ≠ r ∧ w1.heap.size ≤ r ∧
    (W.cell? ⟨p, 0, none⟩ = some (.int .u64 (LH : Int)) ∧ W.cell? ⟨p, 1, none⟩ = some (.int .u64 (LL : Int)) ∧ (∀ o, W.frozen? ⟨p, o, none⟩ = false) ∧ p < W.heap.size) ∧
    (W.cell? ⟨r, 0, none⟩ = some (.int .u64 (HH : Int)) ∧ W.cell? ⟨r, 1, none⟩ = some (.int .u64 (HL : Int)) ∧ (∀ o, W.frozen? ⟨r, o, none⟩ = false) ∧ r < W.heap.size) ∧ Below w1.heap.size w1 W)
  case first =>
    clear HSM HA2 HSH HBW HQE
    have hwle := hS.2.size
    go_region_held3 (fun W => (W.cell? ⟨b9, 0, none⟩ = some (.int .u64 (th : Int)) ∧ W.cell? ⟨b9, 1, none⟩ = some (.int .u64 (tl : Int)) ∧ (∀ o, W.frozen? ⟨b9, o, none⟩ = false) ∧ b9 < W.heap.size) ∧ Below w1.heap.size w1 W)
      ((repeat' (first | with_reducible assumption | with_reducible refine q2_drew ?_ | with_reducible refine q2_alloc ?_ _ | with_reducible refine q2_store ?_ ?_ | (simp only [World.size_alloc, World.size_drew, World.size_setCell]; omega) | omega)))
      ((go_at_call 184; (first | with_reducible refine Calls.mono (HMA.out _) ?_ | with_reducible refine Calls.mono (HMB.out _) ?_); rintro _ wa ⟨rfl, hb⟩; have hSwa := q2_next (by with_reducible assumption) hb; have hnwa := hSwa.1.2.2.2; have hlwa := hSwa.2.size; have hzn := hb.size; obtain ⟨hc, hf, hz⟩ := bfacts2 hb; (try simp only [World.size_alloc, World.size_drew] at hc hf hz hzn); (try have hk0 : wc.heap.size < wa.heap.size := hz _ (by omega)); (try have hk1 : wc.heap.size < wa.heap.size + 1 := by omega); (try have hk2 : wc.heap.size + 1 < wa.heap.size := by omega); (try have hk3 : wc.heap.size + 1 < wa.heap.size + 1 := by omega); (try have hne0 : wc.heap.size ≠ wa.heap.size := by omega); (try have hne1 : wa.heap.size ≠ wc.heap.size := by omega); clear hb))
    all_goals go_wp2_with fail
    all_goals go_meet
    all_goals refine ⟨_, _, rfl, rfl, ?_, ?_, ⟨?_, ?_, ?_, ?_⟩, ⟨?_, ?_, ?_, ?_⟩, ?_⟩
    all_goals first
      | with_reducible assumption
      | omega
      | (simp only [World.size_alloc, World.size_drew, World.size_setCell]; omega)
      | (simp [*, go_sem]; done)
      | (intro o; simp [*, go_sem]; done)
      | exact (And.right (by with_reducible assumption))
      | (refine set4 (z := .int .u64 0) ?_ ?_
         · first
           | (simp [*, go_sem]; done)
           | (rw [hc _ _ (by omega)]; simp [*, go_sem]; done)
           | skip
         · first
           | (simp [*]; done)
           | (simp; omega)
           | skip)
      | skip
  case rest =>
  clear hS hn0 hlt2 HMA HMB
  obtain ⟨p, r, rfl, rfl, hpr, hrw, hP, hR, hbel⟩ := hcut
  go_wp2_with fail
  refine Calls.mono (HA2.out _) ?_
  rintro _ w5 ⟨vh, vl, hwd, rfl, hb⟩
  replace hP := bx2_next hP hb
  replace hR := bx2_next hR hb
  replace hbel := below_then hbel hb
  rw [HSM.out] at hwd
  have HVS := hid_mk (wshr_all vh vl (s - 64) _ hwd (by omega))
  rw [HSH.out] at HVS
  have hRp := bx2_put hR (.int .u64 (vh : Int)) (.int .u64 (vl : Int))
  have HBP := hid_mk ((hbel.setCell (p := ⟨r, 0, none⟩) hrw (.int .u64 (vh : Int))).setCell (p := ⟨r, 1, none⟩) hrw (.int .u64 (vl : Int)))
  obtain ⟨s6, hs6⟩ : ∃ s6, s6 = s - 64 := ⟨_, rfl⟩
  rw [← hs6] at HVS
  have ks6 : (s : Int) - 64 = (s6 : Int) := by omega
  have ks7 : IntKind.u8.wrap (s6 : Int) = (s6 : Int) := by rw [IntKind.wrap_u8]; omega
  have ks8 : IntKind.i16.wrap (s6 : Int) = (s6 : Int) := by rw [i16_wrap]; omega
  clear hb HA2 hwd HSM HSH hs6 hbel
  go_wp2_with fail
  generalize (w5.setCell ⟨r, 0, none⟩ (.int .u64 (vh : Int))).setCell ⟨r, 1, none⟩ (.int .u64 (vl : Int)) = w6 at *
  refine Calls.mono (HVS.out _) ?_
  rintro _ w7 ⟨zh, zl, hwz, rfl, hb⟩
  have hzl := wd_small hwz hV64
  subst hzl
  have HBE := hid_mk (below_then HBP.out hb)
  have hf88 := field88_1 (zh : Int) (zl : Int)
  clear hb HVS hP hR hRp HBP hwz
  by_cases hq1' : 1 ≤ q
  · obtain ⟨Q, hQ⟩ : ∃ Q : Nat, (Q : Int) = q := ⟨q.toNat, by omega⟩
    subst hQ
    have c1 : decide (1 ≤ (Q : Int)) = true := decide_eq_true hq1'
    have HFI := hid_mk (fivesIn_ok m Q hm0 hm (by omega))
    have hBv : B = decide (5 ^ Q ∣ m) := by
      rw [HBW.out]
      exact decide_eq_decide.2 (whole_hi hq1' (HQE.out hq1'))
    rw [← hBv] at HFI
    clear hBv HBW HQE
    go_wp2_with fail
    refine Calls.mono (HFI.out _) ?_
    rintro _ w8 ⟨rfl, rfl⟩
    go_wp2_with fail
    exact bodyPost_ret (v := .tuple #[.int .u64 (zl : Int), .bool B]) (by simp [results, Oajg.results158, go_sem]) rfl ⟨rfl, HBE.out⟩
  · have c1 : decide (1 ≤ q) = false := decide_eq_false hq1'
    by_cases hqe : q - e ≤ 0
    · have c2 : decide (q - e ≤ 0) = true := decide_eq_true hqe
      have hBv : B = true := by rw [HBW.out]; exact decide_eq_true (whole_in (by omega) (by omega))
      subst hBv
      go_wp2_with fail
      exact bodyPost_ret (v := .tuple #[.int .u64 (zl : Int), .bool true]) (by simp [results, Oajg.results158, go_sem]) rfl ⟨rfl, HBE.out⟩
    · have c2 : decide (q - e ≤ 0) = false := decide_eq_false hqe
      obtain ⟨k, hk⟩ : ∃ k : Nat, (k : Int) = q - e := ⟨(q - e).toNat, by omega⟩
      have hBv : B = decide (m % 2 ^ k = 0) := by rw [HBW.out]; exact decide_eq_decide.2 (whole_lo (by omega) hk)
      have hkd : q - e = (k : Int) := hk.symm
      clear hk
      by_cases h55 : k < 55
      · have c3 : decide ((k : Int) < 55) = true := decide_eq_true (by omega)
        have hp1 : 2 ^ k ≤ 2 ^ 55 := Nat.pow_le_pow_right (by decide) (by omega)
        have hp0 : 1 ≤ 2 ^ k := Nat.one_le_two_pow
        have hand : bits .and .u64 (m : Int) ((2 ^ k - 1 : Nat) : Int) = ((m % 2 ^ k : Nat) : Int) := by
          rw [bits_and_u64_nat _ _ (by omega) (by omega), Nat.and_two_pow_sub_one_eq_mod]
        have kp : (2 : Int) ^ k = ((2 ^ k : Nat) : Int) := by push_cast; rfl
        obtain ⟨P, hP⟩ : ∃ P, P = 2 ^ k := ⟨_, rfl⟩
        rw [← hP] at hp1 hp0 hand kp hBv
        have kw1 : IntKind.u64.wrap (P : Int) = (P : Int) := by rw [IntKind.wrap_u64]; omega
        have kw2 : (P : Int) - 1 = ((P - 1 : Nat) : Int) := by omega
        obtain ⟨P1, hP1⟩ : ∃ P1, P1 = P - 1 := ⟨_, rfl⟩
        rw [← hP1] at kw2 hand
        have kw3 : IntKind.u64.wrap (P1 : Int) = (P1 : Int) := by rw [IntKind.wrap_u64]; omega
        obtain ⟨R, hR⟩ : ∃ R, R = m % P := ⟨_, rfl⟩
        rw [← hR] at hand hBv
        have hBv2 : ((R : Int) == 0) = B := by
          rw [hBv]
          by_cases h0 : R = 0
          · rw [decide_eq_true h0, beq_iff_eq]; omega
          · rw [decide_eq_false h0, beq_eq_false_iff_ne]; omega
        clear hP1 hR hP hBv HBW HQE
        go_wp2_with fail
        exact bodyPost_ret (v := .tuple #[.int .u64 (zl : Int), .bool B]) (by simp [results, Oajg.results158, go_sem]) rfl ⟨rfl, HBE.out⟩
      · have c3 : decide ((k : Int) < 55) = false := decide_eq_false (by omega)
        have hBf : B = false := by
          rw [hBv]
          refine decide_eq_false ?_
          have hp1 : 2 ^ 55 ≤ 2 ^ k := Nat.pow_le_pow_right (by decide) (by omega)
          rw [Nat.mod_eq_of_lt (by omega)]; omega
        subst hBf
        clear hBv HBW HQE
        go_wp2_with fail
        exact bodyPost_ret (v := .tuple #[.int .u64 (zl : Int), .bool false]) (by simp [results, Oajg.results158, go_sem]) rfl ⟨rfl, HBE.out⟩

end Go.Proofs.Ygcoaj
