/-
  WALKS: nat.guess, nat.takeAway, nat.putBack, nat.Shr (by less than 32).
-/
import Derived.Test.YgcoajNat6
import Derived.Deep.QuietTactic
import Derived.BigQuiet
set_option linter.unusedVariables false
set_option linter.unusedSimpArgs false
namespace Go.Proofs.Ygcoaj
open Go.RowKit

/-! ### guess -/
set_option maxRecDepth 100000 in
set_option maxHeartbeats 2000000 in
theorem guess_ok (u2 u1 u0 d1 d0 : Nat) (hu2 : u2 ≤ d1) (hu1 : u1 < 4294967296) (hu0 : u0 < 4294967296) (hd1 : d1 < 4294967296) (hd0 : d0 < 4294967296) (htop : 2147483648 ≤ d1) (w : World) :
    Calls Oajg.prog 197 #[.int .u32 (u2 : Int), .int .u32 (u1 : Int), .int .u32 (u0 : Int), .int .u32 (d1 : Int), .int .u32 (d0 : Int)] w fun e w' => ∃ r : Nat, e = .returned (.int .u32 (r : Int)) ∧ Guessed u2 u1 u0 d1 d0 r ∧ ∃ k, w' = w.drewN k := by
  have k1 := or32 u2 u1 (by omega) hu1
  have HG0 : Hid (GuessAt u2 u1 u0 d1 d0 ((u2 * 4294967296 + u1) / d1) ((u2 * 4294967296 + u1) % d1)) := guess0 hu2 hu1 htop hd1 hu0 hd0
  have HU : Hid (u2 ≤ d1) := hu2
  have HH : ∃ hd : Nat, hd = u2 * 4294967296 + u1 := ⟨_, rfl⟩
  obtain ⟨hd, HH⟩ := HH
  rw [← HH] at k1 HG0
  have hd64 : hd < 18446744073709551616 := by omega
  have k2 : (hd : Int).tdiv (d1 : Int) = ((hd / d1 : Nat) : Int) := by rw [Int.tdiv_eq_ediv_of_nonneg (by omega)]; rfl
  have k3 : (hd : Int).tmod (d1 : Int) = ((hd % d1 : Nat) : Int) := by rw [Int.tmod_eq_emod_of_nonneg (by omega)]; rfl
  have k4 : (hd : Int) / (d1 : Int) = ((hd / d1 : Nat) : Int) := rfl
  have k5 : (hd : Int) % (d1 : Int) = ((hd % d1 : Nat) : Int) := rfl
  have b1 : hd / d1 < 18446744073709551616 := by have := Nat.div_le_self hd d1; omega
  have b2 : hd % d1 < 4294967296 := by have := Nat.mod_lt hd (show d1 > 0 by omega); omega
  have hd0' : ((d1 : Int) == 0) = false := by simp; omega
  generalize hd / d1 = Q at *
  generalize hd % d1 = R at *
  clear HH
  go_enter Oajg.func197, Oajg.ntmps197
  go_wp2_with fail
  go_quiet (fail)
  go_wp2_with fail
  clear k1 k2 k3 k4 k5
  go_loop [12, 13] (fun i j => ∃ est rest : Nat, i = .int .u64 (est : Int) ∧ j = .int .u64 (rest : Int) ∧ GuessAt u2 u1 u0 d1 d0 est rest) (fun i _ => (intOf i).toNat)
  case atStart => exact ⟨Q, R, rfl, rfl, HG0.out⟩
  case round =>
    clear HG0
    obtain ⟨est, rest, rfl, rfl, hg⟩ := hrel
    have hr32 := hg.r32
    have hle := hg.le
    obtain ⟨S, hS⟩ : ∃ S, S = rest * 4294967296 + u0 := ⟨_, rfl⟩
    have hor := or32 rest u0 hr32 hu0
    rw [← hS] at hor
    have S64 : (S : Int) < 18446744073709551616 := by omega
    have r32 : (rest : Int) < 4294967296 := by omega
    have e33 : (est : Int) ≤ 4294967297 := by omega
    by_cases hc : 4294967296 ≤ est
    · obtain ⟨hne, hmore, hend⟩ := guess_back hg HU.out hu1 hd1 htop hd0 hu0 (Or.inl hc)
      have hcI : (4294967296 : Int) ≤ (est : Int) := by omega
      obtain ⟨e1, he1⟩ : ∃ e1, e1 = est - 1 := ⟨_, rfl⟩
      have k7 : (est : Int) - 1 = (e1 : Int) := by omega
      have HLT : Hid (e1 < est) := by show e1 < est; omega
      rw [← he1] at hmore hend
      by_cases hb : 4294967296 ≤ rest + d1
      · have HE : Hid (Guessed u2 u1 u0 d1 d0 e1) := hend hb
        have he : (e1 : Int) < 4294967296 := by have := HE.out.lt; omega
        have hbI : (4294967296 : Int) ≤ (rest : Int) + (d1 : Int) := by omega
        clear hg hmore hend hc hb hle hr32 he1 hne hS
        go_wp2_with fail
        go_ret
        exact ⟨e1, by go_num, HE.out, _, rfl⟩
      · have HM : Hid (GuessAt u2 u1 u0 d1 d0 e1 (rest + d1)) := hmore (by omega)
        have hbI : decide ((4294967296 : Int) ≤ (rest : Int) + (d1 : Int)) = false := by rw [decide_eq_false_iff_not]; omega
        clear hg hmore hend hc hb hle hr32 he1 hne hS
        go_wp2_with fail
        go_round
        case rel => exact ⟨e1, rest + d1, by go_num, by go_num, HM.out⟩
        case measure => simp [intOf]; exact HLT.out
    · have hcI : (est : Int) < 4294967296 := by omega
      have hmul : est * d0 ≤ 4294967295 * 4294967295 := Nat.mul_le_mul (by omega) (by omega)
      obtain ⟨m, hm⟩ : ∃ m : Nat, m = est * d0 := ⟨_, rfl⟩
      rw [← hm] at hmul
      have k6 : (est : Int) * (d0 : Int) = (m : Int) := by rw [hm]; push_cast; rfl
      have m64 : (m : Int) < 18446744073709551616 := by omega
      by_cases hgt : S < m
      · obtain ⟨hne, hmore, hend⟩ := guess_back hg HU.out hu1 hd1 htop hd0 hu0 (Or.inr (by rw [← hm, ← hS]; exact hgt))
        have hgI : (S : Int) < (m : Int) := by omega
        obtain ⟨e1, he1⟩ : ∃ e1, e1 = est - 1 := ⟨_, rfl⟩
        have k7 : (est : Int) - 1 = (e1 : Int) := by omega
        have HLT : Hid (e1 < est) := by show e1 < est; omega
        rw [← he1] at hmore hend
        by_cases hb : 4294967296 ≤ rest + d1
        · have HE : Hid (Guessed u2 u1 u0 d1 d0 e1) := hend hb
          have he : (e1 : Int) < 4294967296 := by have := HE.out.lt; omega
          have hbI : (4294967296 : Int) ≤ (rest : Int) + (d1 : Int) := by omega
          clear hg hmore hend hm hc hb hle hr32 he1 hne hgt hmul hS
          go_wp2_with fail
          go_ret
          exact ⟨e1, by go_num, HE.out, _, rfl⟩
        · have HM : Hid (GuessAt u2 u1 u0 d1 d0 e1 (rest + d1)) := hmore (by omega)
          have hbI : decide ((4294967296 : Int) ≤ (rest : Int) + (d1 : Int)) = false := by rw [decide_eq_false_iff_not]; omega
          clear hg hmore hend hm hc hb hle hr32 he1 hne hgt hmul hS
          go_wp2_with fail
          go_round
          case rel => exact ⟨e1, rest + d1, by go_num, by go_num, HM.out⟩
          case measure => simp [intOf]; exact HLT.out
      · have HE : Hid (Guessed u2 u1 u0 d1 d0 est) := guess_end hg (by omega) (by rw [← hm, ← hS]; omega)
        have hgI : decide ((S : Int) < (m : Int)) = false := by rw [decide_eq_false_iff_not]; omega
        have hcB : decide ((4294967296 : Int) ≤ (est : Int)) = false := by rw [decide_eq_false_iff_not]; omega
        have hcM : (est : Int) % 4294967296 = (est : Int) := by omega
        have hgN : decide (S < m) = false := by rw [decide_eq_false_iff_not]; omega
        have hgL : m ≤ S := by omega
        clear hg hm hc hle hr32 hgt hmul hS hcI e33
        go_wp2_with fail
        go_ret
        exact ⟨est, by go_num, HE.out, _, rfl⟩

def gN (u2 u1 u0 d1 d0 : Nat) : Nat := min 4294967295 (((u2 * 4294967296 + u1) * 4294967296 + u0) / (d1 * 4294967296 + d0))
theorem guessed_eq {u2 u1 u0 d1 d0 r : Nat} (h : Guessed u2 u1 u0 d1 d0 r) (hd : 0 < d1) : r = gN u2 u1 u0 d1 d0 := by
  obtain ⟨h1, h2, h3⟩ := h
  unfold gN
  have hpos : 0 < d1 * 4294967296 + d0 := by omega
  have h4 := (Nat.le_div_iff_mul_le hpos).2 h2
  rcases h3 with h3 | h3
  · rw [Nat.min_eq_left (by rw [← h3]; exact h4)]; exact h3
  · have h5 := (Nat.div_lt_iff_lt_mul hpos).2 h3
    rw [Nat.min_eq_right (by omega)]
    omega
/-- the guess, as a number of its own -/
theorem guess_quiet {u2 u1 u0 d1 d0 : Nat} (hu2 : u2 ≤ d1) (hu1 : u1 < 4294967296) (hu0 : u0 < 4294967296) (hd1 : d1 < 4294967296) (hd0 : d0 < 4294967296) (htop : 2147483648 ≤ d1) :
    (∀ w, Calls Oajg.prog 197 #[.int .u32 (u2 : Int), .int .u32 (u1 : Int), .int .u32 (u0 : Int), .int .u32 (d1 : Int), .int .u32 (d0 : Int)] w fun e w' => e = .returned (.int .u32 (gN u2 u1 u0 d1 d0 : Nat)) ∧ ∃ k, w' = w.drewN k) := by
  intro w
  refine (guess_ok u2 u1 u0 d1 d0 hu2 hu1 hu0 hd1 hd0 htop w).mono ?_
  rintro _ w' ⟨r, rfl, hg, hw⟩
  rw [guessed_eq hg (by omega)]
  exact ⟨rfl, hw⟩
theorem gN_plain {U D : Nat} (hpos : 0 < D) : min 4294967295 (U / D) < 4294967296 ∧ min 4294967295 (U / D) * D ≤ U ∧ (min 4294967295 (U / D) = 4294967295 ∨ U < (min 4294967295 (U / D) + 1) * D) := by
  have h1 := Nat.div_mul_le_self U D
  have h2 := Nat.lt_div_mul_add (a := U) hpos
  refine ⟨?_, ?_, ?_⟩
  · have := Nat.min_le_left 4294967295 (U / D); omega
  · exact Nat.le_trans (Nat.mul_le_mul_right _ (Nat.min_le_right _ _)) h1
  · rcases Nat.le_total 4294967295 (U / D) with h | h
    · exact Or.inl (Nat.min_eq_left h)
    · refine Or.inr ?_
      rw [Nat.min_eq_right h, Nat.add_mul, Nat.one_mul]
      exact h2
theorem gN_guessed {u2 u1 u0 d1 d0 : Nat} (hd : 0 < d1) : Guessed u2 u1 u0 d1 d0 (gN u2 u1 u0 d1 d0) :=
  have h := gN_plain (U := (u2 * 4294967296 + u1) * 4294967296 + u0) (D := d1 * 4294967296 + d0) (by omega)
  ⟨h.1, h.2.1, h.2.2⟩

/-! ### rows written in place -/
/-- only block g has turned -/
structure Only (g : Nat) (w w' : World) : Prop where
  os : w'.os = w.os
  tape : w'.tape = w.tape
  output : w'.output = w.output
  size : w.heap.size ≤ w'.heap.size
  block : ∀ k, k < w.heap.size → k ≠ g → w'.heap[k]? = w.heap[k]?
theorem Only.refl (g : Nat) (w : World) : Only g w w := ⟨rfl, rfl, rfl, Nat.le_refl _, fun _ _ _ => rfl⟩
theorem Only.setCell {g : Nat} {w w1 : World} (h : Only g w w1) (o : Nat) (u : Value) : Only g w (w1.setCell ⟨g, o, none⟩ u) :=
  have b := (Below.refl 0 w1).setCell (p := ⟨g, o, none⟩) (Nat.zero_le _) u
  ⟨b.os.trans h.os, b.tape.trans h.tape, b.output.trans h.output, Nat.le_trans h.size b.size, fun k hk hg => (Below.heap_setCell w1 ⟨g, o, none⟩ u k hg).trans (h.block k hk hg)⟩
theorem Only.below {g B : Nat} {w0 w w1 : World} (h : Only g w w1) (hb : Below B w0 w) (hB : B ≤ g) (hB2 : B ≤ w.heap.size) : Below B w0 w1 :=
  ⟨h.os.trans hb.os, h.tape.trans hb.tape, h.output.trans hb.output, Nat.le_trans hb.size h.size, fun k hk => (h.block k (by omega) (by omega)).trans (hb.block k hk)⟩
theorem Only.cell {g : Nat} {w w1 : World} (h : Only g w w1) {b o : Nat} (hb : b < w.heap.size) (hg : b ≠ g) : w1.cell? ⟨b, o, none⟩ = w.cell? ⟨b, o, none⟩ := World.cell?_of_block (w := w) (h.block b hb hg)

theorem mid_get (pre c post : List Nat) (i : Nat) (hi : i < c.length) : (pre ++ (c ++ post)).getD (pre.length + i) 0 = c.getD i 0 := by
  simp only [List.getD_eq_getElem?_getD]
  rw [List.getElem?_append_right (by omega), Nat.add_sub_cancel_left, List.getElem?_append_left hi]
theorem mid_set (pre c post : List Nat) (i y : Nat) (hi : i < c.length) : (pre ++ (c ++ post)).set (pre.length + i) y = pre ++ (c.set i y ++ post) := by
  rw [List.set_append_right _ _ (by omega), Nat.add_sub_cancel_left, List.set_append_left _ _ hi]

theorem sub_mod2 (X Y bo : Nat) (hX : X < 4294967296) (hY : Y < 4294967296) (hb : bo ≤ 1) : ∃ t : Nat, IntKind.u64.wrap (IntKind.u64.wrap ((X : Int) - (Y : Int)) - (bo : Int)) = (t : Int) ∧ t < 18446744073709551616 ∧ t % 4294967296 + Y + bo = X + (t / 9223372036854775808) * 4294967296 ∧ t / 9223372036854775808 ≤ 1 := by
  refine ⟨(((X : Int) - Y - bo) % 18446744073709551616).toNat, ?_, ?_, ?_, ?_⟩
  · rw [IntKind.wrap_u64, IntKind.wrap_u64]; omega
  · omega
  · omega
  · omega
theorem and32 (t : Nat) (ht : t < 18446744073709551616) : bits .and .u64 (t : Int) 4294967295 = ((t % 4294967296 : Nat) : Int) := by
  have e : bits .and .u64 (t : Int) ((4294967295 : Nat) : Int) = ((t &&& 4294967295 : Nat) : Int) := u64_and_nat _ _ ht (by decide)
  rw [show (4294967295 : Nat) = 2 ^ 32 - 1 from rfl, Nat.and_two_pow_sub_one_eq_mod] at e
  exact e

set_option maxRecDepth 100000 in
set_option maxHeartbeats 2000000 in
theorem takeAway_ok (pre seg post d : List Nat) (g cap bd capd digit : Nat) (w : World) (hs : Limbs seg) (hd : Limbs d) (hdig : digit < 4294967296) (hlen : seg.length = d.length + 1) (hsl : pre.length + seg.length + post.length ≤ 1099511627776) (hcap : seg.length ≤ cap)
    (hrow : RowAt w g (pre ++ (seg ++ post))) (hdat : LimbsAt w bd 0 d) (hbd : bd < w.heap.size) (hne : bd ≠ g) :
    Calls Oajg.prog 198 #[.slice (some ⟨g, pre.length, none⟩) seg.length cap, .slice (some ⟨bd, 0, none⟩) d.length capd, .int .u32 (digit : Int)] w fun e w' => ∃ c bo, e = .returned (.bool bo) ∧ c.length = seg.length ∧ Limbs c ∧ valL c + digit * valL d = valL seg + (if bo then 4294967296 ^ seg.length else 0) ∧ RowAt w' g (pre ++ (c ++ post)) ∧ Only g w w' := by
  have HROW : Hid (RowAt w g (pre ++ (seg ++ post))) := hrow
  have HDAT : Hid (LimbsAt w bd 0 d) := hdat
  have HT0 : Hid (TakeTo seg d digit 0 seg 0 0) := take0 seg d digit hs
  clear hrow hdat
  go_enter Oajg.func198, Oajg.ntmps198
  go_wp2_with fail
  go_loopw [13, 7, 8] (fun ci cc cb wr => ∃ i c carry borrow, ci = .int .i64 (i : Nat) ∧ cc = .int .u64 (carry : Nat) ∧ cb = .int .u64 (borrow : Nat) ∧ i ≤ seg.length ∧ TakeTo seg d digit i c carry borrow ∧ RowAt wr g (pre ++ (c ++ post)) ∧ Only g w wr) (fun ci _ _ _ => seg.length - (intOf ci).toNat)
  case atStart => exact ⟨0, seg, 0, 0, rfl, rfl, rfl, Nat.zero_le _, HT0.out, HROW.out, Only.refl _ _⟩
  case round =>
    clear HT0 HROW
    obtain ⟨i, c, carry, borrow, rfl, rfl, rfl, hi, hm, hrow, hon⟩ := hrel
    by_cases hil : i < seg.length
    · have hcl : i < c.length := by rw [hm.len]; exact hil
      have x1 := hrow.cell (pre.length + i) (by simp; omega)
      rw [mid_get pre c post i hcl, hm.rest i (Nat.le_refl _)] at x1
      have x4 := hrow.frozen
      have hxb := limbs_get seg i hs
      have hcar := hm.car
      have hbor := hm.bor
      have hdb := limbs_get d i hd
      by_cases hid : i < d.length
      · have x2 : wr.cell? ⟨bd, i, none⟩ = some (.int .u32 ((d.getD i 0 : Nat) : Int)) := by
          rw [hon.cell hbd hne]
          have := HDAT.out i _ (get_some d i hid)
          rw [Nat.zero_add] at this
          exact this
        have hmul : digit * d.getD i 0 ≤ 4294967295 * 4294967295 := Nat.mul_le_mul (by omega) (by omega)
        obtain ⟨m, hmm⟩ : ∃ m, m = digit * d.getD i 0 := ⟨_, rfl⟩
        rw [← hmm] at hmul
        have k1 : (digit : Int) * ((d.getD i 0 : Nat) : Int) = (m : Int) := by rw [hmm]; push_cast; rfl
        obtain ⟨t, ht⟩ : ∃ t, t = carry + m := ⟨_, rfl⟩
        have k2 : (carry : Int) + (m : Int) = (t : Int) := by omega
        have k3 := and32 t (by omega)
        obtain ⟨y, k4, k5, k6, k7⟩ := sub_mod2 (seg.getD i 0) (t % 4294967296) borrow hxb (by omega) hbor
        have g2 := take_step hm hil hd hdig (t := t) (by rw [if_pos hid, ← hmm]; exact ht) (Nat.mod_lt y (by decide)) k7 k6
        have hR := hrow.set (pre.length + i) (y % 4294967296)
        rw [mid_set pre c post i _ hcl] at hR
        have HM : Hid (TakeTo seg d digit (i + 1) (c.set i (y % 4294967296)) (t / 4294967296) (y / 9223372036854775808)) := g2
        have HR : Hid (RowAt (wr.setCell ⟨g, pre.length + i, none⟩ (.int .u32 ((y % 4294967296 : Nat) : Int))) g (pre ++ (c.set i (y % 4294967296) ++ post))) := hR
        have HO : Hid (Only g w (wr.setCell ⟨g, pre.length + i, none⟩ (.int .u32 ((y % 4294967296 : Nat) : Int)))) := hon.setCell _ _
        have ht64 : t < 18446744073709551616 := by omega
        rw [show ((t % 4294967296 : Nat) : Int) = (t : Int) % 4294967296 from by omega] at k3 k4
        clear hm hrow hon g2 hR k6 k7 hmm ht
        generalize seg.getD i 0 = X at *
        generalize d.getD i 0 = D at *
        generalize pre.length = PL at *
        go_wp2_with fail
        go_roundw
        case rel => exact ⟨i + 1, _, _, _, by go_num, by first | rfl | (congr 1), by first | rfl | (congr 1), by omega, HM.out, HR.out, HO.out⟩
        case measure => simp [intOf]; omega
      · obtain ⟨t, ht⟩ : ∃ t, t = carry := ⟨_, rfl⟩
        have k3 := and32 carry (by omega)
        obtain ⟨y, k4, k5, k6, k7⟩ := sub_mod2 (seg.getD i 0) (carry % 4294967296) borrow hxb (by omega) hbor
        have g2 := take_step hm hil hd hdig (t := carry) (by rw [if_neg hid]; omega) (Nat.mod_lt y (by decide)) k7 k6
        have hR := hrow.set (pre.length + i) (y % 4294967296)
        rw [mid_set pre c post i _ hcl] at hR
        have HM : Hid (TakeTo seg d digit (i + 1) (c.set i (y % 4294967296)) (carry / 4294967296) (y / 9223372036854775808)) := g2
        have HR : Hid (RowAt (wr.setCell ⟨g, pre.length + i, none⟩ (.int .u32 ((y % 4294967296 : Nat) : Int))) g (pre ++ (c.set i (y % 4294967296) ++ post))) := hR
        have HO : Hid (Only g w (wr.setCell ⟨g, pre.length + i, none⟩ (.int .u32 ((y % 4294967296 : Nat) : Int)))) := hon.setCell _ _
        rw [show ((carry % 4294967296 : Nat) : Int) = (carry : Int) % 4294967296 from by omega] at k3 k4
        clear hm hrow hon g2 hR k6 k7 ht
        generalize seg.getD i 0 = X at *
        generalize pre.length = PL at *
        go_wp2_with fail
        go_roundw
        case rel => exact ⟨i + 1, _, _, _, by go_num, by first | rfl | (congr 1), by first | rfl | (congr 1), by omega, HM.out, HR.out, HO.out⟩
        case measure => simp [intOf]; omega
    · have hie : i = seg.length := by omega
      subst hie
      have hv := take_whole hm (by omega)
      have hb1 := hm.bor
      have HC : Hid (c.length = seg.length ∧ Limbs c) := ⟨hm.len, hm.lim⟩
      have HV : Hid (valL c + digit * valL d = valL seg + (if (decide (borrow = 1)) then 4294967296 ^ seg.length else 0)) := by
        show _ = _
        rw [hv]
        rcases Nat.le_one_iff_eq_zero_or_eq_one.1 hb1 with rfl | rfl <;> simp
      have HR : Hid (RowAt wr g (pre ++ (c ++ post))) := hrow
      have HO : Hid (Only g w wr) := hon
      have k8 : ((borrow : Int) == 1) = decide (borrow = 1) := by
        rcases Nat.le_one_iff_eq_zero_or_eq_one.1 hb1 with rfl | rfl <;> rfl
      clear hm hrow hon hv hil hi
      generalize decide (borrow = 1) = bo at *
      go_wp2_with fail
      go_ret
      exact ⟨c, bo, rfl, HC.out.1, HC.out.2, HV.out, HR.out, HO.out⟩

set_option maxRecDepth 100000 in
set_option maxHeartbeats 2000000 in
theorem putBack_ok (pre seg post d : List Nat) (g cap bd capd : Nat) (w : World) (hs : Limbs seg) (hd : Limbs d) (hlen : seg.length = d.length + 1) (hsl : pre.length + seg.length + post.length ≤ 1099511627776) (hcap : seg.length ≤ cap)
    (hrow : RowAt w g (pre ++ (seg ++ post))) (hdat : LimbsAt w bd 0 d) (hbd : bd < w.heap.size) (hne : bd ≠ g) :
    Calls Oajg.prog 199 #[.slice (some ⟨g, pre.length, none⟩) seg.length cap, .slice (some ⟨bd, 0, none⟩) d.length capd] w fun e w' => ∃ c k, e = .returned (.tuple #[]) ∧ c.length = seg.length ∧ Limbs c ∧ k ≤ 1 ∧ valL c + k * 4294967296 ^ seg.length = valL seg + valL d ∧ RowAt w' g (pre ++ (c ++ post)) ∧ Only g w w' := by
  have HROW : Hid (RowAt w g (pre ++ (seg ++ post))) := hrow
  have HDAT : Hid (LimbsAt w bd 0 d) := hdat
  have HT0 : Hid (PutTo seg d 0 seg 0) := put0 seg d hs
  clear hrow hdat
  go_enter Oajg.func199, Oajg.ntmps199
  go_wp2_with fail
  go_loopw [8, 4] (fun ci cc wr => ∃ i c carry, ci = .int .i64 (i : Nat) ∧ cc = .int .u64 (carry : Nat) ∧ i ≤ seg.length ∧ PutTo seg d i c carry ∧ RowAt wr g (pre ++ (c ++ post)) ∧ Only g w wr) (fun ci _ _ => seg.length - (intOf ci).toNat)
  case atStart => exact ⟨0, seg, 0, rfl, rfl, Nat.zero_le _, HT0.out, HROW.out, Only.refl _ _⟩
  case round =>
    clear HT0 HROW
    obtain ⟨i, c, carry, rfl, rfl, hi, hm, hrow, hon⟩ := hrel
    by_cases hil : i < seg.length
    · have hcl : i < c.length := by rw [hm.len]; exact hil
      have x1 := hrow.cell (pre.length + i) (by simp; omega)
      rw [mid_get pre c post i hcl, hm.rest i (Nat.le_refl _)] at x1
      have x4 := hrow.frozen
      have hxb := limbs_get seg i hs
      have hcar := hm.car
      have hdb := limbs_get d i hd
      by_cases hid : i < d.length
      · have x2 : wr.cell? ⟨bd, i, none⟩ = some (.int .u32 ((d.getD i 0 : Nat) : Int)) := by
          rw [hon.cell hbd hne]
          have := HDAT.out i _ (get_some d i hid)
          rw [Nat.zero_add] at this
          exact this
        obtain ⟨t, ht⟩ : ∃ t, t = carry + seg.getD i 0 + d.getD i 0 := ⟨_, rfl⟩
        have k2 : (carry : Int) + ((seg.getD i 0 : Nat) : Int) + ((d.getD i 0 : Nat) : Int) = (t : Int) := by omega
        have g2 := put_step hm hil hs hd (t := t) (by rw [if_pos hid]; exact ht)
        have hR := hrow.set (pre.length + i) (t % 4294967296)
        rw [mid_set pre c post i _ hcl] at hR
        have HM : Hid (PutTo seg d (i + 1) (c.set i (t % 4294967296)) (t / 4294967296)) := g2
        have HR : Hid (RowAt (wr.setCell ⟨g, pre.length + i, none⟩ (.int .u32 ((t % 4294967296 : Nat) : Int))) g (pre ++ (c.set i (t % 4294967296) ++ post))) := hR
        have HO : Hid (Only g w (wr.setCell ⟨g, pre.length + i, none⟩ (.int .u32 ((t % 4294967296 : Nat) : Int)))) := hon.setCell _ _
        have ht64 : t < 18446744073709551616 := by omega
        clear hm hrow hon g2 hR ht
        generalize seg.getD i 0 = X at *
        generalize d.getD i 0 = D at *
        generalize pre.length = PL at *
        go_wp2_with fail
        go_roundw
        case rel => exact ⟨i + 1, _, _, by go_num, by first | rfl | (congr 1), by omega, HM.out, HR.out, HO.out⟩
        case measure => simp [intOf]; omega
      · obtain ⟨t, ht⟩ : ∃ t, t = carry + seg.getD i 0 := ⟨_, rfl⟩
        have k2 : (carry : Int) + ((seg.getD i 0 : Nat) : Int) = (t : Int) := by omega
        have g2 := put_step hm hil hs hd (t := t) (by rw [if_neg hid]; omega)
        have hR := hrow.set (pre.length + i) (t % 4294967296)
        rw [mid_set pre c post i _ hcl] at hR
        have HM : Hid (PutTo seg d (i + 1) (c.set i (t % 4294967296)) (t / 4294967296)) := g2
        have HR : Hid (RowAt (wr.setCell ⟨g, pre.length + i, none⟩ (.int .u32 ((t % 4294967296 : Nat) : Int))) g (pre ++ (c.set i (t % 4294967296) ++ post))) := hR
        have HO : Hid (Only g w (wr.setCell ⟨g, pre.length + i, none⟩ (.int .u32 ((t % 4294967296 : Nat) : Int)))) := hon.setCell _ _
        have ht64 : t < 18446744073709551616 := by omega
        clear hm hrow hon g2 hR ht
        generalize seg.getD i 0 = X at *
        generalize pre.length = PL at *
        go_wp2_with fail
        go_roundw
        case rel => exact ⟨i + 1, _, _, by go_num, by first | rfl | (congr 1), by omega, HM.out, HR.out, HO.out⟩
        case measure => simp [intOf]; omega
    · have hie : i = seg.length := by omega
      subst hie
      have HV : Hid (valL c + carry * 4294967296 ^ seg.length = valL seg + valL d) := put_whole hm (by omega)
      have HC : Hid (c.length = seg.length ∧ Limbs c ∧ carry ≤ 1) := ⟨hm.len, hm.lim, hm.car⟩
      have HR : Hid (RowAt wr g (pre ++ (c ++ post))) := hrow
      have HO : Hid (Only g w wr) := hon
      clear hm hrow hon hil hi
      go_wp2_with fail
      go_end0
      exact ⟨c, carry, rfl, HC.out.1, HC.out.2.1, HC.out.2.2, HV.out, HR.out, HO.out⟩

end Go.Proofs.Ygcoaj
