/-
  WALKS: nat.Shr (115) at any count below the number's length.
-/
import Derived.Test.YgcoajBox
import Derived.Test.YgcoajNat8
import Derived.BigQuiet
set_option linter.unusedVariables false
set_option linter.unusedSimpArgs false
namespace Go.Proofs.Ygcoaj
open Go.RowKit

theorem limbs_drop {l : List Nat} (h : Limbs l) (Q : Nat) : Limbs (l.drop Q) := fun x hx => h x (List.mem_of_mem_drop hx)
theorem getD_drop' (l : List Nat) (Q i : Nat) : (l.drop Q).getD i 0 = l.getD (i + Q) 0 := by
  rw [List.getD_eq_getElem?_getD, List.getD_eq_getElem?_getD, List.getElem?_drop, Nat.add_comm]
theorem pow32q (Q r : Nat) : 2 ^ (32 * Q + r) = 4294967296 ^ Q * 2 ^ r := by rw [Nat.pow_add, Nat.pow_mul]
theorem shr_digitQ {l : List Nat} {i Q r : Nat} (h : Limbs l) (hr : r ≤ 32) : (l.getD (i + Q) 0 + l.getD (i + Q + 1) 0 * 4294967296) / 2 ^ r % 4294967296 = valL l / 2 ^ (32 * Q + r) / 4294967296 ^ i % 4294967296 := by
  have h1 := shr_digit (l := l.drop Q) (i := i) (limbs_drop h Q) hr
  rw [getD_drop', getD_drop', show i + 1 + Q = i + Q + 1 from by omega, ← valL_div l Q h] at h1
  rw [h1, pow32q, ← Nat.div_div_eq_div_mul]

theorem shr_small {l : List Nat} {S Q r : Nat} (h : Limbs l) (hl : l.length ≤ S + Q) : valL l / 2 ^ (32 * Q + r) < 4294967296 ^ S := by
  have p : 0 < 4294967296 ^ Q := Nat.pow_pos (by decide)
  have h5 : valL l < 4294967296 ^ S * 4294967296 ^ Q := by
    rw [← Nat.pow_add]
    exact Nat.lt_of_lt_of_le (valL_lt l h) (Nat.pow_le_pow_right (by decide) hl)
  rw [pow32q, ← Nat.div_div_eq_div_mul]
  exact Nat.lt_of_le_of_lt (Nat.div_le_self _ _) ((Nat.div_lt_iff_lt_mul p).2 h5)

set_option maxRecDepth 100000 in
set_option maxHeartbeats 4000000 in
theorem shrG_ok (B : Nat) (v : Value) (n K : Nat) (w : World) (hB : B ≤ 1073741824) (hK : K ≤ 65535) (hge : 2 ^ K ≤ n) (HT : Hid (Calls Oajg.prog 112 #[v] w fun e w' => w' = w ∧ ∃ v', e = .returned v' ∧ NatIs B w v' n)) :
    Calls Oajg.prog 115 #[v, .int .u16 (K : Int)] w fun e w' => ∃ ad k c lo, e = .returned (.tuple #[.slice ad k c, .bool lo]) ∧ NatIs B w' (.slice ad k c) (n / 2 ^ K) ∧ Below w.heap.size w w' := by
  obtain ⟨Q, hQ⟩ : ∃ Q, Q = K / 32 := ⟨_, rfl⟩
  obtain ⟨r, hr⟩ : ∃ r, r = K % 32 := ⟨_, rfl⟩
  have hr31 : r ≤ 31 := by omega
  have HK2 : Hid (K = 32 * Q + r) := by show _ = _; omega
  have kd : (K : Int) / 32 = (Q : Int) := by omega
  have km : (K : Int) % 32 = (r : Int) := by omega
  have kd2 : (K : Int).tdiv 32 = (Q : Int) := by rw [Int.tdiv_eq_ediv_of_nonneg (by omega)]; omega
  have km2 : (K : Int).tmod 32 = (r : Int) := by rw [Int.tmod_eq_emod_of_nonneg (by omega)]; omega
  have hQ64 : Q ≤ 65535 := by omega
  clear hQ hr
  go_enter Oajg.func115, Oajg.ntmps115
  go_wp2_with fail
  refine Calls.mono HT.out ?_
  rintro _ w0 ⟨hw, v', rfl, hN⟩
  subst w0
  have hn : n ≠ 0 := by have : 1 ≤ 2 ^ K := Nat.one_le_two_pow; omega
  obtain ⟨l, b, cap, h1, h2, h3, h4, h5, rfl, h7, h8, h9⟩ := hN.of_pos hn
  have hpos := List.length_pos_iff.2 h5
  have hQl : Q < l.length := by
    rcases Nat.lt_or_ge Q l.length with h | h
    · exact h
    · exfalso
      have p1 := valL_lt l h2
      have p2 : 4294967296 ^ l.length ≤ 4294967296 ^ Q := Nat.pow_le_pow_right (by decide) h
      have p3 : 4294967296 ^ Q * 1 ≤ 4294967296 ^ Q * 2 ^ r := Nat.mul_le_mul_left _ Nat.one_le_two_pow
      rw [← pow32q, ← HK2.out] at p3
      omega
  obtain ⟨S, hS⟩ : ∃ S, S = l.length - Q := ⟨_, rfl⟩
  have hmk := run_make_limbs S (by omega)
  have hmk2 : ∀ w, Sem.run Oajg.prog (Instr.makeSlice 46 (Value.int IntKind.i64 ((l.length : Int) - (Q : Int))) (Value.int IntKind.i64 ((l.length : Int) - (Q : Int)))) w = Result.ok (Value.slice (some ⟨w.heap.size, 0, none⟩) S S) (w.alloc (.cells (madeCells #[.int .u32 0] S) 57)) := by rw [show (l.length : Int) - (Q : Int) = (S : Int) from by omega]; exact hmk
  have hS1 : S + Q ≤ l.length := by omega
  have hS2 : l.length ≤ S + Q := by omega
  clear hS hmk
  have x0 := h9 Q _ (get_some l Q hQl)
  rw [Nat.zero_add] at x0
  unfold lv at x0
  have hp31 : 2 ^ r ≤ 2 ^ 31 := Nat.pow_le_pow_right (by decide) hr31
  have hp1 : 1 ≤ 2 ^ r := Nat.one_le_two_pow
  obtain ⟨P, hP⟩ : ∃ P, P = 2 ^ r := ⟨_, rfl⟩
  have kp : (2 : Int) ^ r = (P : Int) := by rw [hP]; push_cast; rfl
  rw [← hP] at hp31 hp1
  have kw : IntKind.u32.wrap (P : Int) = (P : Int) := by rw [IntKind.wrap_u32]; omega
  have kw1 : IntKind.u32.wrap ((P : Int) - 1) = (P : Int) - 1 := by rw [IntKind.wrap_u32]; omega
  have HAT : Hid (LimbsAt w b 0 l) := h9
  have HB0 : Hid (Below w.heap.size w (w.alloc (.cells (madeCells #[.int .u32 0] S) 57))) := (Below.refl _ _).alloc (Nat.le_refl _) _
  have HV : Hid (valL l = n) := h1
  have HP : Hid (P = 2 ^ r) := hP
  have hz1 : decide (l.length ≤ Q) = false := by rw [decide_eq_false_iff_not]; omega
  have hz2 : ¬ l.length ≤ Q := by omega
  clear hN HT h1 h3 h9 hn hP hge
  go_wp2_with fail
  go_loopw [5, 8] (fun c5 c8 wr => ∃ (lo : Bool) (i : Nat), c5 = .bool lo ∧ c8 = .int .i64 (i : Int) ∧ i ≤ Q ∧ w = wr) (fun _ c8 _ => Q - (intOf c8).toNat)
  case atStart => exact ⟨false, 0, rfl, rfl, Nat.zero_le _, rfl⟩
  case round =>
    obtain ⟨lo, i, rfl, rfl, hi, rfl⟩ := hrel
    by_cases hiQ : i < Q
    · have x1 := HAT.out i _ (get_some l i (by omega))
      rw [Nat.zero_add] at x1
      unfold lv at x1
      have b1 : decide ((i : Int) < (Q : Int)) = true := decide_eq_true (by omega)
      have b2 : decide ((i : Int) < (l.length : Int)) = true := decide_eq_true (by omega)
      have b1' : (i : Int) < (Q : Int) := by omega
      have b2' : (i : Int) < (l.length : Int) := by omega
      clear x0
      generalize l.getD i 0 = X at *
      cases lo
      all_goals (
        go_wp2_with fail
        go_roundw
        case rel => exact ⟨_, i + 1, rfl, by go_num, by omega, by first | rfl | trivial⟩
        case measure => simp [intOf]; omega)
    · obtain rfl : i = Q := by omega
      have b1 : decide ((i : Int) < (i : Int)) = false := decide_eq_false (by omega)
      generalize l.getD i 0 = X0 at *
      go_wp2_with fail
      go_cut [5] (fun s5 W => ∃ (lo : Bool) (n : Nat), s5 = .bool lo ∧ W = w.drewN n)
      case first =>
        clear HAT HB0 HV HP HK2
        cases lo
        all_goals (
          go_quiet (fail)
          go_wp2_with fail
          go_meet
          exact ⟨_, _, rfl, rfl⟩)
      case rest =>
      obtain ⟨lo2, nd, rfl, rfl⟩ := hcut
      replace HAT : Hid (LimbsAt (w.drewN nd) b 0 l) := HAT
      have HBD : Hid (Below w.heap.size w (w.drewN nd)) := below_drewN (Below.refl w.heap.size w) nd
      replace h8 : b < (w.drewN nd).heap.size := h8
      have HSZ : Hid ((w.drewN nd).heap.size = w.heap.size) := rfl
      replace HB0 : Hid (Below (w.drewN nd).heap.size (w.drewN nd) ((w.drewN nd).alloc (.cells (madeCells #[.int .u32 0] S) 57))) := (Below.refl _ _).alloc (Nat.le_refl _) _
      generalize w.drewN nd = wd at *
      clear x0 kw kw1 b1
      go_wp2_with fail
      go_loopw [62] (fun ci wr => ∃ j c, ci = .int .i64 (j : Nat) ∧ j ≤ S ∧ c.length = S ∧ Limbs c ∧ (∀ k, k < j → c.getD k 0 = n / 2 ^ K / 4294967296 ^ k % 4294967296) ∧ RowAt wr (wd.heap.size) c ∧ Below wd.heap.size wd wr) (fun ci _ => S - (intOf ci).toNat)
      case atStart => exact ⟨0, _, rfl, Nat.zero_le _, by simp, limbs_zero _, fun j hj => absurd hj (Nat.not_lt_zero _), RowAt.made _ _, HB0.out⟩
      case round =>
        clear HB0
        obtain ⟨j, c, rfl, hj, hcl, hlim, hdig, hrow, hbel⟩ := hrel
        by_cases hil : j < S
        · have hic : j < c.length := by omega
          have x1 := limb_at HAT.out h8 hbel (j + i) (by omega)
          have x3 := hrow.cell j hic
          have x4 := hrow.frozen
          have hxb := limbs_get l (j + i) h2
          have hyb := limbs_get l (j + i + 1) h2
          have hsd := shr_digitQ (i := j) (Q := i) h2 (show r ≤ 32 by omega)
          rw [HV.out, ← HK2.out] at hsd
          obtain ⟨t, ht⟩ : ∃ t, t = l.getD (j + i) 0 + l.getD (j + i + 1) 0 * 4294967296 := ⟨_, rfl⟩
          rw [← ht] at hsd
          have k1 := or32r (l.getD (j + i + 1) 0) (l.getD (j + i) 0) hyb hxb
          rw [← ht] at k1
          have ht64 : t < 18446744073709551616 := by omega
          obtain ⟨Z, hZ⟩ : ∃ Z, Z = t / P := ⟨_, rfl⟩
          have k2 : (t : Int) / (P : Int) = (Z : Int) := by rw [hZ]; rfl
          have hZ64 : Z < 18446744073709551616 := by have := Nat.div_le_self t P; omega
          rw [← HP.out, ← hZ] at hsd
          have HM : Hid (∀ k, k < j + 1 → (c.set j (Z % 4294967296)).getD k 0 = n / 2 ^ K / 4294967296 ^ k % 4294967296) := by
            intro k hk
            by_cases hji : k = j
            · subst hji; rw [getD_set_same _ _ _ hic]; rw [hsd]
            · rw [getD_set_ne' _ _ _ _ (by omega)]; exact hdig k (by omega)
          have HR : Hid (RowAt (wr.setCell ⟨wd.heap.size, j, none⟩ (.int .u32 ((Z % 4294967296 : Nat) : Int))) wd.heap.size (c.set j (Z % 4294967296))) := hrow.set _ _
          have HB : Hid (Below wd.heap.size wd (wr.setCell ⟨wd.heap.size, j, none⟩ (.int .u32 ((Z % 4294967296 : Nat) : Int)))) := hbel.setCell (Nat.le_refl _) _
          have HL : Hid (Limbs (c.set j (Z % 4294967296))) := limbs_set _ _ _ hlim (Nat.mod_lt _ (by decide))
          have hcl2 : Hid ((c.set j (Z % 4294967296)).length = S) := by show _ = _; simpa using hcl
          by_cases hil2 : j + i + 1 < l.length
          · have x2 := limb_at HAT.out h8 hbel (j + i + 1) hil2
            have b1 : decide ((j : Int) + (i : Int) + 1 < (l.length : Int)) = true := decide_eq_true (by omega)
            have b1' : (j : Int) + (i : Int) + 1 < (l.length : Int) := by omega
            clear hrow hbel hlim hdig hsd ht hZ hcl
            generalize l.getD (j + i) 0 = X at *
            generalize l.getD (j + i + 1) 0 = Y at *
            generalize c.getD j 0 = C at *
            go_wp2_with fail
            go_roundw
            case rel => exact ⟨j + 1, _, by go_num, by omega, hcl2.out, HL.out, HM.out, HR.out, HB.out⟩
            case measure => simp [intOf]; omega
          · have b1 : decide ((j : Int) + (i : Int) + 1 < (l.length : Int)) = false := decide_eq_false (by omega)
            have b1' : ¬ (j : Int) + (i : Int) + 1 < (l.length : Int) := by omega
            have hY0 : l.getD (j + i + 1) 0 = 0 := by rw [List.getD_eq_getElem?_getD, List.getElem?_eq_none (by omega)]; rfl
            have htX : t = l.getD (j + i) 0 := by rw [ht, hY0]; omega
            have k2' : ((l.getD (j + i) 0 : Nat) : Int) / (P : Int) = (Z : Int) := by rw [← htX]; exact k2
            clear hrow hbel hlim hdig hsd ht hZ hcl k1 k2 hY0 htX hyb
            generalize l.getD (j + i) 0 = X at *
            generalize c.getD j 0 = C at *
            go_wp2_with fail
            go_roundw
            case rel => exact ⟨j + 1, _, by go_num, by omega, hcl2.out, HL.out, HM.out, HR.out, HB.out⟩
            case measure => simp [intOf]; omega
        · have hie : j = S := by omega
          subst hie
          have hv := digits_val c (n / 2 ^ K) (by rw [hcl]; exact hdig)
          have hnlt : n / 2 ^ K < 4294967296 ^ c.length := by
            rw [hcl, HK2.out, ← HV.out]
            exact shr_small h2 (by omega)
          rw [Nat.mod_eq_of_lt hnlt] at hv
          have hT := trim_new wd.heap.size j c B (by rw [hcl]; omega) (by omega) (by rw [hcl]; exact Nat.le_refl _) hlim _ hrow.lt hrow.limbs
          rw [hcl, hv] at hT
          have HTN : Hid (Calls Oajg.prog 112 #[.slice (some ⟨wd.heap.size, 0, none⟩) j j] wr fun e w' => w' = wr ∧ ∃ v, e = .returned v ∧ NatIs B wr v (n / 2 ^ K)) := hT
          have HB : Hid (Below w.heap.size w wr) := by
            have h := HBD.out
            rw [HSZ.out] at hbel
            exact h.trans hbel
          clear hrow hbel hT hlim hdig hv hnlt hcl
          go_wp2_with fail
          refine Calls.mono HTN.out ?_
          rintro _ w0 ⟨hw, v, rfl, hN⟩
          subst w0
          obtain ⟨ad, k, cc, rfl⟩ : ∃ ad k c, v = .slice ad k c := by
            obtain ⟨l', _, _, _, _, hh⟩ := hN
            rcases hh with ⟨_, rfl⟩ | ⟨_, b', cap', rfl, _⟩
            · exact ⟨_, _, _, rfl⟩
            · exact ⟨_, _, _, rfl⟩
          have HN : Hid (NatIs B wr (.slice ad k cc) (n / 2 ^ K)) := hN
          clear hN
          go_wp2_with fail
          go_ret2
          exact ⟨_, _, _, _, rfl, HN.out, HB.out⟩

end Go.Proofs.Ygcoaj
